/- token.Same: whether two messages are alike. -/
import Derived.Test.YtoaoofobidhfjaaGreatDoorUM4
set_option linter.unusedSimpArgs false
set_option linter.unusedVariables false
namespace Go.Proofs.YtoaoofobidhfjaaGreatDoor
open Go.V Go.RowKit
instance segEq : DecidableEq Seg := fun a b =>
  if h : a.name = b.name ∧ a.flds = b.flds then .isTrue (by obtain ⟨n, f⟩ := a; obtain ⟨n', f'⟩ := b; simp only at h; obtain ⟨rfl, rfl⟩ := h; rfl) else .isFalse (fun e => h (by rw [e]; exact ⟨rfl, rfl⟩))
theorem alike_of {α : Type} [DecidableEq α] {k : Value → World → Prop} {w : World} {a b : α} {v : Bool} (h : k (.bool (decide (a = b))) w) (e : v = decide (a = b)) : k (.bool v) w := by rw [e]; exact h
section
variable {w : World} {k : Value → World → Prop}
theorem eqTexts_spec (x y : Sl) (l l' : Cmp) (hx : RdL 1 RdStr w x l) (hy : RdL 1 RdStr w y l') (hl : l.length ≤ BB) (hk : ∀ w', Fr Non w w' → k (.bool (decide (l = l'))) w') : Cl Tryz.prog 78 [.slice x.base x.len x.cap, .slice y.base y.len y.cap] w k := by
  refine f78_ok ?_
  unfold f78
  have hL := hx.1
  have hL2 := hy.1
  unfold BB at hl
  refine ⟨fun h => ?_, fun h => ?_⟩
  · have h : x.len ≠ y.len := by intro e; rw [e] at h; simp at h
    exact alike_of (hk w (Fr.refl _ _)) (decide_eq_false (fun e => h (by rw [hL, hL2, e]))).symm
  have h : x.len = y.len := by simp at h; omega
  refine ⟨fun t i w' => ∃ j : Nat, i = j ∧ j ≤ l.length ∧ t = l.length - j ∧ Fr Non w w' ∧ l.take j = l'.take j, ⟨l.length, 0, rfl, by omega, by omega, Fr.refl _ _, rfl⟩, ?_⟩
  rintro t i w8 ⟨j, rfl, hj, rfl, f8, he⟩
  refine ⟨fun h => ?_, fun h => ?_⟩
  · have hj1 : j < l.length := by have := of_decide_eq_true h; omega
    have hj2 : j < l'.length := by omega
    rintro w9 rfl
    have f9 : Fr Non w w8.drew := f8.drew
    obtain ⟨a, ha, hz⟩ := (hx.fr RdStr.stay f9).2 j hj1
    obtain ⟨b, hb, hz'⟩ := (hy.fr RdStr.stay f9).2 j hj2
    refine ⟨a, ha, ⟨by omega, by omega⟩, _, hz, b, hb, ⟨by omega, by omega⟩, _, hz', fun hp => ?_, fun hp => ⟨l.length - (j + 1), by omega, j + 1, by rw [w64_id (by omega) (by omega)]; push_cast; rfl, by omega, rfl, f9, ?_⟩⟩
    · have hne : l[j] ≠ l'[j] := by simpa using hp
      exact alike_of (hk _ f9) (decide_eq_false (fun e => hne (by subst e; rfl))).symm
    · have heq : l[j] = l'[j] := by simpa using hp
      rw [take_snoc hj1, take_snoc hj2, he, heq]
  · have hj : j = l.length := by have := of_decide_eq_false h; omega
    subst hj
    rw [List.take_length, List.take_of_length_le (show l'.length ≤ l.length by omega)] at he
    exact alike_of (hk _ f8) (decide_eq_true he).symm
theorem eqf1_spec (x y : Sl) (fv : Value) (l l' : List (List Str)) (hx : RdL 1 RC w x l) (hy : RdL 1 RC w y l') (hl : l.length ≤ BB)
    (hf : ∀ (z z' : Sl) (a b : List Str) (w1 : World) (k1 : Value → World → Prop), Fr Non w w1 → RdL 1 RdStr w1 z a → RdL 1 RdStr w1 z' b → a ∈ l → (∀ w2, Fr Non w1 w2 → k1 (.bool (decide (a = b))) w2) → Cv Tryz.prog fv [.slice z.base z.len z.cap, .slice z'.base z'.len z'.cap] w1 k1)
    (hk : ∀ w', Fr Non w w' → k (.bool (decide (l = l'))) w') : Cl Tryz.prog 80 [.slice x.base x.len x.cap, .slice y.base y.len y.cap, fv] w k := by
  refine f80_ok ?_
  unfold f80
  have hL := hx.1
  have hL2 := hy.1
  unfold BB at hl
  refine ⟨fun h => ?_, fun h => ?_⟩
  · have h : x.len ≠ y.len := by intro e; rw [e] at h; simp at h
    exact alike_of (hk w (Fr.refl _ _)) (decide_eq_false (fun e => h (by rw [hL, hL2, e]))).symm
  have h : x.len = y.len := by simp at h; omega
  refine ⟨fun t i w' => ∃ j : Nat, i = j ∧ j ≤ l.length ∧ t = l.length - j ∧ Fr Non w w' ∧ l.take j = l'.take j, ⟨l.length, 0, rfl, by omega, by omega, Fr.refl _ _, rfl⟩, ?_⟩
  rintro t i w8 ⟨j, rfl, hj, rfl, f8, he⟩
  refine ⟨fun h => ?_, fun h => ?_⟩
  · have hj1 : j < l.length := by have := of_decide_eq_true h; omega
    have hj2 : j < l'.length := by omega
    obtain ⟨a, ha, z, hz, hZ⟩ := (hx.fr RC.stay f8).2 j hj1
    obtain ⟨b, hb, z', hz', hZ'⟩ := (hy.fr RC.stay f8).2 j hj2
    refine ⟨a, ha, ⟨by omega, by omega⟩, z, hz, b, hb, ⟨by omega, by omega⟩, z', hz', hf z z' l[j] l'[j] w8 _ f8 hZ hZ' (List.getElem_mem hj1) fun w13 f13 => ⟨_, rfl, fun hp => ?_, fun hp => ⟨l.length - (j + 1), by omega, j + 1, by rw [w64_id (by omega) (by omega)]; push_cast; rfl, by omega, rfl, f8.trans' f13, ?_⟩⟩⟩
    · have hne : l[j] ≠ l'[j] := by simpa using hp
      exact alike_of (hk _ (f8.trans' f13)) (decide_eq_false (fun e => hne (by subst e; rfl))).symm
    · have heq : l[j] = l'[j] := by simpa using hp
      rw [take_snoc hj1, take_snoc hj2, he, heq]
  · have hj : j = l.length := by have := of_decide_eq_false h; omega
    subst hj
    rw [List.take_length, List.take_of_length_le (show l'.length ≤ l.length by omega)] at he
    exact alike_of (hk _ f8) (decide_eq_true he).symm
theorem eqf2_spec (x y : Sl) (fv : Value) (l l' : List (List Cmp)) (hx : RdL 1 RR w x l) (hy : RdL 1 RR w y l') (hl : l.length ≤ BB)
    (hf : ∀ (z z' : Sl) (a b : List Cmp) (w1 : World) (k1 : Value → World → Prop), Fr Non w w1 → RdL 1 RC w1 z a → RdL 1 RC w1 z' b → a ∈ l → (∀ w2, Fr Non w1 w2 → k1 (.bool (decide (a = b))) w2) → Cv Tryz.prog fv [.slice z.base z.len z.cap, .slice z'.base z'.len z'.cap] w1 k1)
    (hk : ∀ w', Fr Non w w' → k (.bool (decide (l = l'))) w') : Cl Tryz.prog 82 [.slice x.base x.len x.cap, .slice y.base y.len y.cap, fv] w k := by
  refine f82_ok ?_
  unfold f82
  have hL := hx.1
  have hL2 := hy.1
  unfold BB at hl
  refine ⟨fun h => ?_, fun h => ?_⟩
  · have h : x.len ≠ y.len := by intro e; rw [e] at h; simp at h
    exact alike_of (hk w (Fr.refl _ _)) (decide_eq_false (fun e => h (by rw [hL, hL2, e]))).symm
  have h : x.len = y.len := by simp at h; omega
  refine ⟨fun t i w' => ∃ j : Nat, i = j ∧ j ≤ l.length ∧ t = l.length - j ∧ Fr Non w w' ∧ l.take j = l'.take j, ⟨l.length, 0, rfl, by omega, by omega, Fr.refl _ _, rfl⟩, ?_⟩
  rintro t i w8 ⟨j, rfl, hj, rfl, f8, he⟩
  refine ⟨fun h => ?_, fun h => ?_⟩
  · have hj1 : j < l.length := by have := of_decide_eq_true h; omega
    have hj2 : j < l'.length := by omega
    obtain ⟨a, ha, z, hz, hZ⟩ := (hx.fr RR.stay f8).2 j hj1
    obtain ⟨b, hb, z', hz', hZ'⟩ := (hy.fr RR.stay f8).2 j hj2
    refine ⟨a, ha, ⟨by omega, by omega⟩, z, hz, b, hb, ⟨by omega, by omega⟩, z', hz', hf z z' l[j] l'[j] w8 _ f8 hZ hZ' (List.getElem_mem hj1) fun w13 f13 => ⟨_, rfl, fun hp => ?_, fun hp => ⟨l.length - (j + 1), by omega, j + 1, by rw [w64_id (by omega) (by omega)]; push_cast; rfl, by omega, rfl, f8.trans' f13, ?_⟩⟩⟩
    · have hne : l[j] ≠ l'[j] := by simpa using hp
      exact alike_of (hk _ (f8.trans' f13)) (decide_eq_false (fun e => hne (by subst e; rfl))).symm
    · have heq : l[j] = l'[j] := by simpa using hp
      rw [take_snoc hj1, take_snoc hj2, he, heq]
  · have hj : j = l.length := by have := of_decide_eq_false h; omega
    subst hj
    rw [List.take_length, List.take_of_length_le (show l'.length ≤ l.length by omega)] at he
    exact alike_of (hk _ f8) (decide_eq_true he).symm
theorem eqf3_spec (x y : Sl) (fv : Value) (l l' : List (List Rept)) (hx : RdL 1 RF w x l) (hy : RdL 1 RF w y l') (hl : l.length ≤ BB)
    (hf : ∀ (z z' : Sl) (a b : List Rept) (w1 : World) (k1 : Value → World → Prop), Fr Non w w1 → RdL 1 RR w1 z a → RdL 1 RR w1 z' b → a ∈ l → (∀ w2, Fr Non w1 w2 → k1 (.bool (decide (a = b))) w2) → Cv Tryz.prog fv [.slice z.base z.len z.cap, .slice z'.base z'.len z'.cap] w1 k1)
    (hk : ∀ w', Fr Non w w' → k (.bool (decide (l = l'))) w') : Cl Tryz.prog 85 [.slice x.base x.len x.cap, .slice y.base y.len y.cap, fv] w k := by
  refine f85_ok ?_
  unfold f85
  have hL := hx.1
  have hL2 := hy.1
  unfold BB at hl
  refine ⟨fun h => ?_, fun h => ?_⟩
  · have h : x.len ≠ y.len := by intro e; rw [e] at h; simp at h
    exact alike_of (hk w (Fr.refl _ _)) (decide_eq_false (fun e => h (by rw [hL, hL2, e]))).symm
  have h : x.len = y.len := by simp at h; omega
  refine ⟨fun t i w' => ∃ j : Nat, i = j ∧ j ≤ l.length ∧ t = l.length - j ∧ Fr Non w w' ∧ l.take j = l'.take j, ⟨l.length, 0, rfl, by omega, by omega, Fr.refl _ _, rfl⟩, ?_⟩
  rintro t i w8 ⟨j, rfl, hj, rfl, f8, he⟩
  refine ⟨fun h => ?_, fun h => ?_⟩
  · have hj1 : j < l.length := by have := of_decide_eq_true h; omega
    have hj2 : j < l'.length := by omega
    obtain ⟨a, ha, z, hz, hZ⟩ := (hx.fr RF.stay f8).2 j hj1
    obtain ⟨b, hb, z', hz', hZ'⟩ := (hy.fr RF.stay f8).2 j hj2
    refine ⟨a, ha, ⟨by omega, by omega⟩, z, hz, b, hb, ⟨by omega, by omega⟩, z', hz', hf z z' l[j] l'[j] w8 _ f8 hZ hZ' (List.getElem_mem hj1) fun w13 f13 => ⟨_, rfl, fun hp => ?_, fun hp => ⟨l.length - (j + 1), by omega, j + 1, by rw [w64_id (by omega) (by omega)]; push_cast; rfl, by omega, rfl, f8.trans' f13, ?_⟩⟩⟩
    · have hne : l[j] ≠ l'[j] := by simpa using hp
      exact alike_of (hk _ (f8.trans' f13)) (decide_eq_false (fun e => hne (by subst e; rfl))).symm
    · have heq : l[j] = l'[j] := by simpa using hp
      rw [take_snoc hj1, take_snoc hj2, he, heq]
  · have hj : j = l.length := by have := of_decide_eq_false h; omega
    subst hj
    rw [List.take_length, List.take_of_length_le (show l'.length ≤ l.length by omega)] at he
    exact alike_of (hk _ f8) (decide_eq_true he).symm
theorem eqR_spec {b : Nat} {T : TypeId} (x y : Sl) (r r' : Rept) (hB : Blk w b T [.func (.func 77) #[] (List.toArray [])]) (hx : RdL 1 RC w x r) (hy : RdL 1 RC w y r') (hS : SmR r) (hk : ∀ w', Fr Non w w' → k (.bool (decide (r = r'))) w') : Cl Tryz.prog 79 [.slice x.base x.len x.cap, .slice y.base y.len y.cap, .pointer (some ⟨b, 0, none⟩)] w k := by
  refine f79_ok ?_
  unfold f79
  refine ⟨_, hB.cell rfl, ?_⟩
  refine eqf1_spec x y _ r r' hx hy hS.1 (fun z z' a c w1 k1 f1 hz hz' hm hk1 => ?_) fun w' f => ⟨_, rfl, hk w' f⟩
  refine Cv.of (caps := []) (.mk (by kernel_rfl)) ?_
  refine f77_ok ?_
  unfold f77
  exact eqTexts_spec z z' a c hz hz' (hS.2 a hm).1 fun w2 f2 => ⟨_, rfl, hk1 w2 f2⟩
theorem eqF_spec {b b1 : Nat} {T T1 : TypeId} (x y : Sl) (r r' : Fldt) (hB : Blk w b T [.func (.func 79) #[] (List.toArray [.pointer (some ⟨b1, 0, none⟩)])]) (hB1 : Blk w b1 T1 [.func (.func 77) #[] (List.toArray [])]) (hx : RdL 1 RR w x r) (hy : RdL 1 RR w y r') (hS : SmF r) (hk : ∀ w', Fr Non w w' → k (.bool (decide (r = r'))) w') : Cl Tryz.prog 81 [.slice x.base x.len x.cap, .slice y.base y.len y.cap, .pointer (some ⟨b, 0, none⟩)] w k := by
  refine f81_ok ?_
  unfold f81
  refine ⟨_, hB.cell rfl, ?_⟩
  refine eqf2_spec x y _ r r' hx hy hS.1 (fun z z' a c w1 k1 f1 hz hz' hm hk1 => ?_) fun w' f => ⟨_, rfl, hk w' f⟩
  refine Cv.of (caps := [.pointer (some ⟨b1, 0, none⟩)]) (.mk (by kernel_rfl)) ?_
  exact eqR_spec z z' a c (hB1.fr f1 (fun h => h)) hz hz' (hS.2 a hm) hk1
theorem eqG_spec {b b1 b2 : Nat} {T T1 T2 : TypeId} (x y : Sl) (g g' : Seg) (hB : Blk w b T [.func (.func 81) #[] (List.toArray [.pointer (some ⟨b1, 0, none⟩)])]) (hB1 : Blk w b1 T1 [.func (.func 79) #[] (List.toArray [.pointer (some ⟨b2, 0, none⟩)])]) (hB2 : Blk w b2 T2 [.func (.func 77) #[] (List.toArray [])]) (hx : RdL 1 RF w x g.flds) (hy : RdL 1 RF w y g'.flds) (hS : SmG g) (hk : ∀ w', Fr Non w w' → k (.bool (decide (g = g'))) w') : Cl Tryz.prog 84 [.agg (List.toArray [.string (mkS g.name), .slice x.base x.len x.cap]), .agg (List.toArray [.string (mkS g'.name), .slice y.base y.len y.cap]), .pointer (some ⟨b, 0, none⟩)] w k := by
  refine f84_ok ?_
  unfold f84
  intro b6 w7 hb6 hw7 b8 w9 hb8 hw9
  have f7 : Fr Non w w7 := hw7 ▸ (Fr.refl Non w).alloc _
  have f9 : Fr Non w w9 := hw9 ▸ f7.alloc _
  have hA7 : Blk w7 b6 35 [.string (mkS g.name), .slice x.base x.len x.cap] := hb6 ▸ hw7 ▸ Blk.new w _ _
  have hA : Blk w9 b6 35 [.string (mkS g.name), .slice x.base x.len x.cap] := hw9 ▸ hA7.alloc _
  have hC : Blk w9 b8 35 [.string (mkS g'.name), .slice y.base y.len y.cap] := hb8 ▸ hw9 ▸ Blk.new w7 _ _
  refine ⟨_, hA.cell rfl, _, hC.cell rfl, fun h => ?_, fun h => ?_⟩
  · have h : g.name = g'.name := by simpa using h
    refine ⟨x, by rw [add_mk]; exact hA.cell rfl, y, by rw [add_mk]; exact hC.cell rfl, _, (hB.fr f9 (fun h => h)).cell rfl, ?_⟩
    refine eqf3_spec x y _ g.flds g'.flds (hx.fr RF.stay f9) (hy.fr RF.stay f9) hS.2.1 (fun z z' a c w1 k1 f1 hz hz' hm hk1 => ?_) fun w' f => ⟨_, rfl, alike_of (hk w' (f9.trans' f)) ?_⟩
    · refine Cv.of (caps := [.pointer (some ⟨b1, 0, none⟩)]) (.mk (by kernel_rfl)) ?_
      exact eqF_spec z z' a c (hB1.fr (f9.trans' f1) (fun h => h)) (hB2.fr (f9.trans' f1) (fun h => h)) hz hz' (hS.2.2 a hm) hk1
    · apply decide_eq_decide.2
      obtain ⟨n, fl⟩ := g
      obtain ⟨n', fl'⟩ := g'
      simp only at h
      subst h
      simp
  · have h : ¬ g.name = g'.name := by simpa using h
    exact alike_of (hk _ f9) (decide_eq_false (fun e => h (by rw [e]))).symm
def dlB (m m' : Mh) : Bool := (m.d1 == m'.d1) && ((m.d2 == m'.d2) && ((m.d3 == m'.d3) && ((m.d4 == m'.d4) && ((m.d5 == m'.d5) && true))))
set_option maxHeartbeats 2000000 in
theorem same_spec (m m' : Mh) (l l' : List Seg) (hx : RM w m.s l) (hy : RM w m'.s l') (hS : SmM l) (hk : ∀ w', Fr Non w w' → k (.bool (dlB m m' && decide (l = l'))) w') : Cl Tryz.prog 22 [.agg (List.toArray (mc m)), .agg (List.toArray (mc m'))] w k := by
  refine f22_ok ?_
  unfold f22
  intro b13 w14 hb13 hw14 b15 w16 hb15 hw16 b17 w18 hb17 hw18
  have f14 : Fr Non w w14 := hw14 ▸ (Fr.refl Non w).alloc _
  have f16 : Fr Non w w16 := hw16 ▸ f14.alloc _
  have f18 : Fr Non w w18 := hw18 ▸ f16.alloc _
  have hA14 : Blk w14 b13 26 (mc m) := hb13 ▸ hw14 ▸ Blk.new w (mc m) 26
  have hA16 : Blk w16 b13 26 (mc m) := hw16 ▸ hA14.alloc _
  have hA18 : Blk w18 b13 26 (mc m) := hw18 ▸ hA16.alloc _
  have hC16 : Blk w16 b15 26 (mc m') := hb15 ▸ hw16 ▸ Blk.new w14 (mc m') 26
  have hC18 : Blk w18 b15 26 (mc m') := hw18 ▸ hC16.alloc _
  have hB18 : Blk w18 b17 109 [.nilFunc] := hb17 ▸ hw18 ▸ Blk.new w16 _ _
  refine ⟨hB18.isS (by simp), hB18.free _, ?_⟩
  intro w19 hw19
  have n17 : w.heap.size ≤ b17 := by rw [hb17]; exact f16.size
  have g19 : Fr Non w w19 := hw19 ▸ f18.set (a := ⟨b17, 0, none⟩) (fun h => by simp only at h; omega) _
  have l13 := hA18.lt
  have l15 := hC18.lt
  have ne1 : b13 ≠ b17 := by rw [hb17]; have := hA16.lt; omega
  have ne2 : b15 ≠ b17 := by rw [hb17]; have := hC16.lt; omega
  have hA19 : Blk w19 b13 26 (mc m) := hw19 ▸ hA18.ne (a := ⟨b17, 0, none⟩) (by simp only; omega) _
  have hC19 : Blk w19 b15 26 (mc m') := hw19 ▸ hC18.ne (a := ⟨b17, 0, none⟩) (by simp only; omega) _
  have hB19 : Blk w19 b17 109 [.func (.func 77) #[] (List.toArray [])] := hw19 ▸ hB18.set 0 _
  intro b20 w21 hb20 hw21
  have g21 : Fr Non w19 w21 := hw21 ▸ (Fr.refl Non w19).alloc _
  have hD21 : Blk w21 b20 111 [.nilFunc] := hb20 ▸ hw21 ▸ Blk.new w19 _ _
  refine ⟨hD21.isS (by simp), hD21.free _, ?_⟩
  intro w22 hw22
  have g22 : Fr Non w19 w22 := hw22 ▸ g21.set (a := ⟨b20, 0, none⟩) (fun h => by simp only at h; omega) _
  have hD22 : Blk w22 b20 111 [.func (.func 79) #[] (List.toArray [.pointer (some ⟨b17, 0, none⟩)])] := hw22 ▸ hD21.set 0 _
  intro b23 w24 hb23 hw24
  have g24 : Fr Non w22 w24 := hw24 ▸ (Fr.refl Non w22).alloc _
  have hE24 : Blk w24 b23 113 [.nilFunc] := hb23 ▸ hw24 ▸ Blk.new w22 _ _
  refine ⟨hE24.isS (by simp), hE24.free _, ?_⟩
  intro w25 hw25
  have g25 : Fr Non w22 w25 := hw25 ▸ g24.set (a := ⟨b23, 0, none⟩) (fun h => by simp only at h; omega) _
  have hE25 : Blk w25 b23 113 [.func (.func 81) #[] (List.toArray [.pointer (some ⟨b20, 0, none⟩)])] := hw25 ▸ hE24.set 0 _
  have g1925 := g22.trans' g25
  have f25 := g19.trans' g1925
  have hA25 := hA19.fr g1925 (fun h => h)
  have hC25 := hC19.fr g1925 (fun h => h)
  have hB25 := hB19.fr g1925 (fun h => h)
  have hD25 := hD22.fr g25 (fun h => h)
  have hL := hx.1
  have hL2 := hy.1
  obtain ⟨hS0, hSG⟩ := hS
  have hS0' := hS0
  unfold BB at hS0
  refine ⟨m.d1, m.d2, m.d3, m.d4, m.d5, ats5 hA25, m'.d1, m'.d2, m'.d3, m'.d4, m'.d5, ats5 hC25, fun hd => ?_, fun hd => ?_⟩
  · have hd : dlB m m' = true := hd
    rw [hd] at hk
    simp only [Bool.true_and] at hk
    refine ⟨m.s, by rw [add_mk]; exact hA25.cell rfl, m'.s, by rw [add_mk]; exact hC25.cell rfl, ?_⟩
    refine f83_ok ?_
    unfold f83
    refine ⟨fun h => ⟨_, rfl, ?_⟩, fun h => ?_⟩
    · have h : m.s.len ≠ m'.s.len := by intro e; rw [e] at h; simp at h
      exact alike_of (hk _ f25) (decide_eq_false (fun e => h (by rw [hL, hL2, e]))).symm
    have h : m.s.len = m'.s.len := by simp at h; omega
    refine ⟨fun t i w' => ∃ j : Nat, i = j ∧ j ≤ l.length ∧ t = l.length - j ∧ Fr Non w25 w' ∧ l.take j = l'.take j, ⟨l.length, 0, rfl, by omega, by omega, Fr.refl _ _, rfl⟩, ?_⟩
    rintro t i w8 ⟨j, rfl, hj, rfl, f8, he⟩
    refine ⟨fun h => ?_, fun h => ⟨_, rfl, ?_⟩⟩
    · have hj1 : j < l.length := by have := of_decide_eq_true h; omega
      have hj2 : j < l'.length := by omega
      have k8 := f25.trans' f8
      obtain ⟨a, ha, hn, z, hz, hZ⟩ := (hx.fr k8).2 j hj1
      refine ⟨a, ha, ⟨by omega, by omega⟩, _, z, ⟨hn, hz, trivial⟩, ?_⟩
      intro c12 w13 hc12 hw13
      have f13 : Fr Non w8 w13 := hw13 ▸ (Fr.refl Non w8).alloc _
      have hG13 : Blk w13 c12 35 [.string (mkS []), .slice none 0 0] := hc12 ▸ hw13 ▸ Blk.new w8 _ _
      refine ⟨mayCells_of hG13 0 2 (by simp), ?_⟩
      intro w14' hw14'
      have g14 : Fr Non w8 w14' := upN f13 (hw14' ▸ (Fr.refl (fun g => g = c12) w13).setAll hG13 (vs := [.string (mkS l[j].name), .slice z.base z.len z.cap]) rfl (fun _ => rfl)) (fun g hg => by omega)
      have hG14 : Blk w14' c12 35 [.string (mkS l[j].name), .slice z.base z.len z.cap] := hw14' ▸ hG13.setAll rfl
      obtain ⟨b, hb, hn', z', hz', hZ'⟩ := (hy.fr (k8.trans' g14)).2 j hj2
      refine ⟨b, hb, ⟨by omega, by omega⟩, _, z', ⟨hn', hz', trivial⟩, ?_⟩
      intro c18 w19' hc18 hw19'
      have f19' : Fr Non w14' w19' := hw19' ▸ (Fr.refl Non w14').alloc _
      have hH19 : Blk w19' c18 35 [.string (mkS []), .slice none 0 0] := hc18 ▸ hw19' ▸ Blk.new w14' _ _
      refine ⟨mayCells_of hH19 0 2 (by simp), ?_⟩
      intro w20' hw20'
      have g20 : Fr Non w14' w20' := upN f19' (hw20' ▸ (Fr.refl (fun g => g = c18) w19').setAll hH19 (vs := [.string (mkS l'[j].name), .slice z'.base z'.len z'.cap]) rfl (fun _ => rfl)) (fun g hg => by omega)
      have hH20 : Blk w20' c18 35 [.string (mkS l'[j].name), .slice z'.base z'.len z'.cap] := hw20' ▸ hH19.setAll rfl
      have hG20 := hG14.fr g20 (fun h => h)
      have k820 := g14.trans' g20
      have k2520 := f8.trans' k820
      refine ⟨_, z, hG20.ats _ 0 0 (fun q v hq => by simpa using hq), _, z', hH20.ats _ 0 0 (fun q v hq => by simpa using hq), ?_⟩
      refine Cv.of (caps := [.pointer (some ⟨b23, 0, none⟩)]) (.mk (by kernel_rfl)) ?_
      refine eqG_spec z z' l[j] l'[j] (hE25.fr k2520 (fun h => h)) (hD25.fr k2520 (fun h => h)) (hB25.fr k2520 (fun h => h)) (hZ.fr RF.stay k820) (hZ'.fr RF.stay g20) (hSG _ (List.getElem_mem hj1)) fun w13 f13 => ⟨_, rfl, fun hp => ⟨_, rfl, ?_⟩, fun hp => ⟨l.length - (j + 1), by omega, j + 1, by rw [w64_id (by omega) (by omega)]; push_cast; rfl, by omega, rfl, k2520.trans' f13, ?_⟩⟩
      · have hne : l[j] ≠ l'[j] := by simpa using hp
        exact alike_of (hk _ (f25.trans' (k2520.trans' f13))) (decide_eq_false (fun e => hne (by subst e; rfl))).symm
      · have heq : l[j] = l'[j] := by simpa using hp
        rw [take_snoc hj1, take_snoc hj2, he, heq]
    · have hj : j = l.length := by have := of_decide_eq_false h; omega
      subst hj
      rw [List.take_length, List.take_of_length_le (show l'.length ≤ l.length by omega)] at he
      exact alike_of (hk _ (f25.trans' f8)) (decide_eq_true he).symm
  · have hd : dlB m m' = false := hd
    rw [hd] at hk
    exact hk _ f25
end
end Go.Proofs.YtoaoofobidhfjaaGreatDoor
