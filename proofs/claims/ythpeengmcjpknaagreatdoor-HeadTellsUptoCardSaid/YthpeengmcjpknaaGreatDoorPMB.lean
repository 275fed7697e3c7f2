/- Whether a message can be. -/
import Derived.Test.YthpeengmcjpknaaGreatDoorPMA
set_option linter.unusedSimpArgs false
set_option linter.unusedVariables false
namespace Go.Proofs.YthpeengmcjpknaaGreatDoor
open Go.V Go.RowKit
section
variable {w : World} {k : Value → World → Prop}
theorem cont3_spec (x : Sl) (p : List Rept → Bool) (fv : Value) (l : List (List Rept)) (hx : RdL 1 RF w x l) (hl : l.length ≤ BB)
    (hf : ∀ (z : Sl) (le : List Rept) (w1 : World) (k1 : Value → World → Prop), RdL 1 RR w1 z le → le ∈ l → (∀ w2, Fr Non w1 w2 → k1 (.bool (p le)) w2) → Cv Tryz.prog fv [.slice z.base z.len z.cap] w1 k1)
    (hk : ∀ w', Fr Non w w' → k (.bool (l.any p)) w') : Cl Tryz.prog 289 [.slice x.base x.len x.cap, fv] w k := by
  refine f289_ok ?_
  unfold f289
  refine f324_ok ?_
  unfold f324
  have hL := hx.1
  unfold BB at hl
  refine ⟨fun t i w' => ∃ j : Nat, i = j ∧ j ≤ l.length ∧ t = l.length - j ∧ Fr Non w w' ∧ (l.take j).any p = false, ⟨l.length, 0, rfl, by omega, by omega, Fr.refl _ _, rfl⟩, ?_⟩
  rintro t i w7 ⟨j, rfl, hj, rfl, f7, hno⟩
  refine ⟨fun h => ?_, fun h => ⟨_, rfl, ?_⟩⟩
  · have hj : j < l.length := by have := of_decide_eq_true h; omega
    obtain ⟨a, ha, z, hz, hZ⟩ := (hx.fr RF.stay f7).2 j hj
    refine ⟨a, ha, ⟨by omega, by omega⟩, z, hz, hf z l[j] w7 _ hZ (List.getElem_mem hj) fun w10 f10 => ⟨_, rfl, fun hp => ⟨_, rfl, ?_⟩, fun hp => ⟨l.length - (j + 1), by omega, j + 1, by rw [w64_id (by omega) (by omega)]; push_cast; rfl, by omega, rfl, f7.trans' f10, ?_⟩⟩⟩
    · have := hk _ (f7.trans' f10)
      rw [show l.any p = true from List.any_eq_true.2 ⟨l[j], List.getElem_mem hj, hp⟩] at this
      rw [decide_eq_true (by omega)]; exact this
    · rw [take_snoc hj, List.any_append, hno]; simp [hp]
  · have hj : j = l.length := by have := of_decide_eq_false h; omega
    subst hj
    rw [List.take_length] at hno
    have := hk _ f7
    rw [hno] at this; exact this
theorem cont2_spec (x : Sl) (p : List Cmp → Bool) (fv : Value) (l : List (List Cmp)) (hx : RdL 1 RR w x l) (hl : l.length ≤ BB)
    (hf : ∀ (z : Sl) (le : List Cmp) (w1 : World) (k1 : Value → World → Prop), RdL 1 RC w1 z le → le ∈ l → (∀ w2, Fr Non w1 w2 → k1 (.bool (p le)) w2) → Cv Tryz.prog fv [.slice z.base z.len z.cap] w1 k1)
    (hk : ∀ w', Fr Non w w' → k (.bool (l.any p)) w') : Cl Tryz.prog 291 [.slice x.base x.len x.cap, fv] w k := by
  refine f291_ok ?_
  unfold f291
  refine f325_ok ?_
  unfold f325
  have hL := hx.1
  unfold BB at hl
  refine ⟨fun t i w' => ∃ j : Nat, i = j ∧ j ≤ l.length ∧ t = l.length - j ∧ Fr Non w w' ∧ (l.take j).any p = false, ⟨l.length, 0, rfl, by omega, by omega, Fr.refl _ _, rfl⟩, ?_⟩
  rintro t i w7 ⟨j, rfl, hj, rfl, f7, hno⟩
  refine ⟨fun h => ?_, fun h => ⟨_, rfl, ?_⟩⟩
  · have hj : j < l.length := by have := of_decide_eq_true h; omega
    obtain ⟨a, ha, z, hz, hZ⟩ := (hx.fr RR.stay f7).2 j hj
    refine ⟨a, ha, ⟨by omega, by omega⟩, z, hz, hf z l[j] w7 _ hZ (List.getElem_mem hj) fun w10 f10 => ⟨_, rfl, fun hp => ⟨_, rfl, ?_⟩, fun hp => ⟨l.length - (j + 1), by omega, j + 1, by rw [w64_id (by omega) (by omega)]; push_cast; rfl, by omega, rfl, f7.trans' f10, ?_⟩⟩⟩
    · have := hk _ (f7.trans' f10)
      rw [show l.any p = true from List.any_eq_true.2 ⟨l[j], List.getElem_mem hj, hp⟩] at this
      rw [decide_eq_true (by omega)]; exact this
    · rw [take_snoc hj, List.any_append, hno]; simp [hp]
  · have hj : j = l.length := by have := of_decide_eq_false h; omega
    subst hj
    rw [List.take_length] at hno
    have := hk _ f7
    rw [hno] at this; exact this
theorem cont1_spec (x : Sl) (p : List Str → Bool) (fv : Value) (l : List (List Str)) (hx : RdL 1 RC w x l) (hl : l.length ≤ BB)
    (hf : ∀ (z : Sl) (le : List Str) (w1 : World) (k1 : Value → World → Prop), RdL 1 RdStr w1 z le → le ∈ l → (∀ w2, Fr Non w1 w2 → k1 (.bool (p le)) w2) → Cv Tryz.prog fv [.slice z.base z.len z.cap] w1 k1)
    (hk : ∀ w', Fr Non w w' → k (.bool (l.any p)) w') : Cl Tryz.prog 293 [.slice x.base x.len x.cap, fv] w k := by
  refine f293_ok ?_
  unfold f293
  refine f326_ok ?_
  unfold f326
  have hL := hx.1
  unfold BB at hl
  refine ⟨fun t i w' => ∃ j : Nat, i = j ∧ j ≤ l.length ∧ t = l.length - j ∧ Fr Non w w' ∧ (l.take j).any p = false, ⟨l.length, 0, rfl, by omega, by omega, Fr.refl _ _, rfl⟩, ?_⟩
  rintro t i w7 ⟨j, rfl, hj, rfl, f7, hno⟩
  refine ⟨fun h => ?_, fun h => ⟨_, rfl, ?_⟩⟩
  · have hj : j < l.length := by have := of_decide_eq_true h; omega
    obtain ⟨a, ha, z, hz, hZ⟩ := (hx.fr RC.stay f7).2 j hj
    refine ⟨a, ha, ⟨by omega, by omega⟩, z, hz, hf z l[j] w7 _ hZ (List.getElem_mem hj) fun w10 f10 => ⟨_, rfl, fun hp => ⟨_, rfl, ?_⟩, fun hp => ⟨l.length - (j + 1), by omega, j + 1, by rw [w64_id (by omega) (by omega)]; push_cast; rfl, by omega, rfl, f7.trans' f10, ?_⟩⟩⟩
    · have := hk _ (f7.trans' f10)
      rw [show l.any p = true from List.any_eq_true.2 ⟨l[j], List.getElem_mem hj, hp⟩] at this
      rw [decide_eq_true (by omega)]; exact this
    · rw [take_snoc hj, List.any_append, hno]; simp [hp]
  · have hj : j = l.length := by have := of_decide_eq_false h; omega
    subst hj
    rw [List.take_length] at hno
    have := hk _ f7
    rw [hno] at this; exact this
theorem any_not {α : Type} (p : α → Bool) (l : List α) : l.any (fun x => !p x) = !l.all p := by
  induction l with
  | nil => rfl
  | cons a l ih => rw [List.any_cons, List.all_cons, ih]; cases p a <;> rfl
theorem gt50 (n : Nat) : decide ((50 : Int) < (n : Int)) = !decide (n ≤ 50) := by
  by_cases h : n ≤ 50
  · rw [decide_eq_true h, decide_eq_false (by omega)]; rfl
  · rw [decide_eq_false h, decide_eq_true (by omega)]; rfl
theorem fitsC_spec (x : Sl) (c : Cmp) (hx : RdL 1 RdStr w x c) (hk : ∀ w', Fr Non w w' → k (.bool (!fitsC c)) w') : Cl Tryz.prog 294 [.slice x.base x.len x.cap] w k := by
  refine f294_ok ?_
  unfold f294
  have := hk w (Fr.refl _ _)
  unfold fitsC at this
  rw [hx.1, gt50]; exact this
theorem fitsR_spec (x : Sl) (r : Rept) (hx : RdL 1 RC w x r) (hS : SmR r) (hk : ∀ w', Fr Non w w' → k (.bool (!fitsR r)) w') : Cl Tryz.prog 292 [.slice x.base x.len x.cap] w k := by
  refine f292_ok ?_
  unfold f292
  rw [hx.1, gt50]
  refine ⟨fun h => ?_, fun h => ?_⟩
  · have h := (Bool.not_eq_true' _).mp h
    have := hk w (Fr.refl _ _)
    unfold fitsR at this; rw [h] at this; exact this
  · have h := (Bool.not_eq_false' _).mp h
    refine cont1_spec x (fun c => !fitsC c) _ r hx hS.1 (fun z le w1 k1 hz hm hk1 => ?_) fun w2 f2 => ⟨_, rfl, ?_⟩
    · refine Cv.of (caps := []) (.mk (by kernel_rfl)) ?_
      exact fitsC_spec z le hz hk1
    · have := hk _ f2
      unfold fitsR at this; rw [h, Bool.true_and] at this
      rw [any_not]; exact this
theorem fitsF_spec (x : Sl) (f : Fldt) (hx : RdL 1 RR w x f) (hS : SmF f) (hk : ∀ w', Fr Non w w' → k (.bool (!fitsF f)) w') : Cl Tryz.prog 290 [.slice x.base x.len x.cap] w k := by
  refine f290_ok ?_
  unfold f290
  rw [hx.1, gt50]
  refine ⟨fun h => ?_, fun h => ?_⟩
  · have h := (Bool.not_eq_true' _).mp h
    have := hk w (Fr.refl _ _)
    unfold fitsF at this; rw [h] at this; exact this
  · have h := (Bool.not_eq_false' _).mp h
    refine cont2_spec x (fun c => !fitsR c) _ f hx hS.1 (fun z le w1 k1 hz hm hk1 => ?_) fun w2 f2 => ⟨_, rfl, ?_⟩
    · refine Cv.of (caps := []) (.mk (by kernel_rfl)) ?_
      exact fitsR_spec z le hz (hS.2 le hm) hk1
    · have := hk _ f2
      unfold fitsF at this; rw [h, Bool.true_and] at this
      rw [any_not]; exact this
theorem fits_spec (g : Seg) (x : Sl) (hx : RdL 1 RF w x g.flds) (hS : SmG g) (hk : ∀ w', Fr Non w w' → k (.bool (fitsG g)) w') : Cl Tryz.prog 183 [.agg (List.toArray [.string (mkS g.name), .slice x.base x.len x.cap])] w k := by
  refine f183_ok ?_
  unfold f183
  intro b3 w4 hb3 hw4
  have f4 : Fr Non w w4 := hw4 ▸ (Fr.refl Non w).alloc _
  have hB : Blk w4 b3 79 [.string (mkS g.name), .slice x.base x.len x.cap] := hb3 ▸ hw4 ▸ Blk.new w _ _
  have hc : w4.cell? ((⟨b3, 0, none⟩ : Addr).add 1) = some (.slice x.base x.len x.cap) := by rw [add_mk]; exact hB.cell rfl
  have hL := hx.1
  refine ⟨x, hc, fun h => ?_, fun h => ⟨x, hc, ?_⟩⟩
  · have h := of_decide_eq_true h
    have := hk _ f4
    unfold fitsG at this; rw [decide_eq_false (by omega)] at this; exact this
  · have h := of_decide_eq_false h
    refine cont3_spec x (fun c => !fitsF c) _ g.flds (hx.fr RF.stay f4) hS.2.1 (fun z le w1 k1 hz hm hk1 => ?_) fun w2 f2 => ⟨_, rfl, ?_⟩
    · refine Cv.of (caps := []) (.mk (by kernel_rfl)) ?_
      exact fitsF_spec z le hz (hS.2.2 le hm) hk1
    · have := hk _ (f4.trans' f2)
      unfold fitsG at this; rw [decide_eq_true (by omega), Bool.true_and] at this
      rw [any_not, Bool.not_not]; exact this
def isB (f : Fldt) (v : Str) : Bool := decide (f = [[[v]]])
theorem is_frm (x : Sl) (f : Fldt) (v : Str) (hx : RdL 1 RR w x f) (hk : k (.bool (isB f v)) w) : f184 x v w k := by
  unfold f184
  have hL := hx.1
  refine ⟨fun h => ?_, fun h => ?_⟩
  · have h1 : f.length = 1 := by simp at h; omega
    obtain ⟨r, rfl⟩ := List.length_eq_one_iff.1 h1
    obtain ⟨a, ha, B, z, hz, hZ⟩ := at0 hx
    have hZL := hZ.1
    refine ⟨a, ha, B, z, hz, fun h => ?_, fun h => ?_⟩
    · have h1 : r.length = 1 := by simp at h; omega
      obtain ⟨c, rfl⟩ := List.length_eq_one_iff.1 h1
      obtain ⟨a2, ha2, B2, u, hu, hU⟩ := at0 hZ
      have hUL := hU.1
      refine ⟨a, ha, B, z, hz, a2, ha2, B2, u, hu, fun h => ?_, fun h => ?_⟩
      · have h1 : c.length = 1 := by simp at h; omega
        obtain ⟨s, rfl⟩ := List.length_eq_one_iff.1 h1
        obtain ⟨a3, ha3, B3, hs⟩ := at0 hU
        refine ⟨a, ha, B, z, hz, a2, ha2, B2, u, hu, a3, ha3, B3, s, hs, ?_⟩
        rw [show (s == v) = isB [[[s]]] v from by unfold isB; rw [Bool.eq_iff_iff]; simp]; exact hk
      · have : isB [[c]] v = false := by unfold isB; rw [decide_eq_false]; intro e; simp at e; subst e; rw [hUL] at h; simp at h
        rw [this] at hk; exact hk
    · have : isB [r] v = false := by unfold isB; rw [decide_eq_false]; intro e; simp at e; subst e; rw [hZL] at h; simp at h
      rw [this] at hk; exact hk
  · have : isB f v = false := by unfold isB; rw [decide_eq_false]; intro e; subst e; rw [hL] at h; simp at h
    rw [this] at hk; exact hk
theorem is_spec (x : Sl) (f : Fldt) (v : Str) (hx : RdL 1 RR w x f) (hk : k (.bool (isB f v)) w) : Cl Tryz.prog 184 [.slice x.base x.len x.cap, .string (mkS v)] w k := f184_ok (is_frm x f v hx hk)
def Dg (m : Mh) : Prop := ∀ d ∈ dl m, 0 ≤ d ∧ d ≤ 255
def by1 (d : Int) : UInt8 := UInt8.ofNat d.toNat
theorem by1_eq {d : Int} (h : 0 ≤ d ∧ d ≤ 255) : (((by1 d).toNat : Nat) : Int) = d := by
  unfold by1; rw [UInt8.toNat_ofNat']; omega
def sg1 (m : Mh) : Str := [by1 m.d1]
def sg2 (m : Mh) : Str := [by1 m.d2, by1 m.d3, by1 m.d4, by1 m.d5]
theorem signs_spec (m : Mh) (hd : Dg m) (hk : ∀ w', Fr Non w w' → k (.agg (List.toArray [.string (mkS (sg1 m)), .string (mkS (sg2 m))])) w') : Cl Tryz.prog 161 [.agg (List.toArray (dvs m))] w k := by
  refine f161_ok ?_
  unfold f161
  intro b6 w7 hb6 hw7 b8 w9 hb8 hw9
  have e1 := by1_eq (hd m.d1 (by simp [dl]))
  have e2 := by1_eq (hd m.d2 (by simp [dl]))
  have e3 := by1_eq (hd m.d3 (by simp [dl]))
  have e4 := by1_eq (hd m.d4 (by simp [dl]))
  have e5 := by1_eq (hd m.d5 (by simp [dl]))
  have f7 : Fr Non w w7 := hw7 ▸ (Fr.refl Non w).alloc _
  have f9 : Fr Non w w9 := hw9 ▸ f7.alloc _
  have hD7 : Blk w7 b6 23 (dvs m) := hb6 ▸ hw7 ▸ Blk.new w _ _
  have hD : Blk w9 b6 23 (dvs m) := hw9 ▸ hD7.alloc _
  have hB : Blk w9 b8 68 [.string (mkS []), .string (mkS [])] := hb8 ▸ hw9 ▸ Blk.new w7 _ _
  refine ⟨m.d1, hD.cell rfl, ?_⟩
  intro b11 w12 hb11 hw12
  have g12 : Fr Non w9 w12 := hw12 ▸ (Fr.refl Non w9).alloc _
  have hD12 := hD.fr g12 (fun h => h)
  have hc : ∀ {i : Nat} {v : Value}, (dvs m)[i]? = some v → w12.cell? ((⟨b6, 0, none⟩ : Addr).add i) = some v := fun h => by rw [add_mk, Nat.zero_add]; exact hD12.cell h
  have h11 : Blk w12 b11 5 (bys (sg1 m)) := by
    have : Blk w12 b11 5 [.int .u8 m.d1] := hb11 ▸ hw12 ▸ Blk.new w9 _ _
    unfold bys sg1; simp only [List.map_cons, List.map_nil, e1]; exact this
  refine ⟨sg1 m, h11.bytes rfl, m.d2, hc rfl, m.d3, hc rfl, m.d4, hc rfl, m.d5, hc rfl, ?_⟩
  intro b18 w19 hb18 hw19
  have g19 : Fr Non w12 w19 := hw19 ▸ (Fr.refl Non w12).alloc _
  have h18 : Blk w19 b18 5 (bys (sg2 m)) := by
    have : Blk w19 b18 5 [.int .u8 m.d2, .int .u8 m.d3, .int .u8 m.d4, .int .u8 m.d5] := hb18 ▸ hw19 ▸ Blk.new w12 _ _
    unfold bys sg2; simp only [List.map_cons, List.map_nil, e2, e3, e4, e5]; exact this
  have hB19 := (hB.fr g12 (fun h => h)).fr g19 (fun h => h)
  have z7 := f7.size
  refine ⟨sg2 m, h18.bytes rfl, mayCells_of hB19 0 2 (by simp), ?_⟩
  rintro w21 rfl
  have h21 := hB19.setAll (vs := [.string (mkS (sg1 m)), .string (mkS (sg2 m))]) rfl
  exact ⟨_, _, h21.ats [.string (mkS (sg1 m)), .string (mkS (sg2 m))] 0 0 (fun q v hq => by simpa using hq), hk _ (((f9.trans' g12).trans' g19).setAll hB19 rfl (fun h => absurd h (by omega)))⟩
def okAt (j : Nat) (g : Seg) : Bool := isName g.name && (((g.name == msh) == decide (j = 0)) && fitsG g)
def okI (l : List Seg) (i : Nat) : Bool := match l[i]? with
  | some g => okAt i g
  | none => true
def headB (m : Mh) : List Seg → Bool
  | [] => false
  | g :: _ => decide (2 ≤ g.flds.length) && (isB (g.flds.getD 0 []) (sg1 m) && isB (g.flds.getD 1 []) (sg2 m))
def validM (m : Mh) (l : List Seg) : Bool := dvB m && (decide (1 ≤ l.length) && (decide (l.length ≤ 200) && ((List.range l.length).all (okI l) && headB m l)))
set_option maxHeartbeats 2000000 in
theorem tvalid_spec (m : Mh) (l : List Seg) (hR : RM w m.s l) (hS : SmM l) (hd : Dg m) (hk : ∀ w', Fr Non w w' → k (.bool (validM m l)) w') : Cl Tryz.prog 27 [.agg (List.toArray (mc m))] w k := by
  refine f27_ok ?_
  unfold f27
  intro b7 w8 hb7 hw8
  have f8 : Fr Non w w8 := hw8 ▸ (Fr.refl Non w).alloc _
  have hM8 : Blk w8 b7 26 (mc m) := hb7 ▸ hw8 ▸ Blk.new w (mc m) 26
  have hc : ∀ {w' : World}, Fr Non w8 w' → w'.cell? ((⟨b7, 0, none⟩ : Addr).add 5) = some (.slice m.s.base m.s.len m.s.cap) := fun f => by rw [add_mk]; exact (hM8.fr f (fun h => h)).cell rfl
  have hL := hR.1
  obtain ⟨hS0, hSG⟩ := hS
  unfold BB at hS0
  refine ⟨fun v w' => v = !(dvB m && (decide (1 ≤ l.length) && decide (l.length ≤ 200))) ∧ Fr Non w8 w', ?_, m.d1, m.d2, m.d3, m.d4, m.d5, ats5 hM8, dvalid_spec m fun w17 g17 => ⟨_, rfl, fun h => ⟨?_, g17⟩, fun h => ⟨m.s, hc g17, fun h2 => ⟨?_, g17⟩, fun h2 => ⟨m.s, hc g17, ?_, g17⟩⟩⟩⟩
  case refine_2 => have h := (Bool.not_eq_true' _).mp h
                   rw [h]; rfl
  case refine_3 => have h := (Bool.not_eq_false' _).mp h
                   have h2 := of_decide_eq_true h2
                   rw [h, decide_eq_false (by omega)]; rfl
  case refine_4 => have h := (Bool.not_eq_false' _).mp h
                   have h2 := of_decide_eq_false h2
                   rw [h, decide_eq_true (p := 1 ≤ l.length) (by omega), Bool.true_and, Bool.true_and]
                   by_cases h3 : l.length ≤ 200
                   · rw [decide_eq_true h3, decide_eq_false (by omega)]; rfl
                   · rw [decide_eq_false h3, decide_eq_true (by omega)]; rfl
  rintro v w11 ⟨rfl, g11⟩
  refine ⟨fun hv => ?_, fun hv => ?_⟩
  · have hv := (Bool.not_eq_true' _).mp hv
    have := hk _ (f8.trans' g11)
    rw [show validM m l = false from by
      unfold validM
      rw [← Bool.and_assoc (decide (1 ≤ l.length)), ← Bool.and_assoc (dvB m), hv]; rfl] at this
    exact this
  have hv := (Bool.not_eq_false' _).mp hv
  simp only [Bool.and_eq_true, decide_eq_true_eq] at hv
  obtain ⟨hdv, hl1, hl2⟩ := hv
  have hval : validM m l = ((List.range l.length).all (okI l) && headB m l) := by
    unfold validM; rw [hdv, decide_eq_true hl1, decide_eq_true hl2]; rfl
  rw [hval] at hk
  refine ⟨m.d1, m.d2, m.d3, m.d4, m.d5, ats5 (hM8.fr g11 (fun h => h)), signs_spec m hd fun w27 g27 => ⟨_, _, rfl, ?_⟩⟩
  have k27 := g11.trans' g27
  intro b31 w32 hb31 hw32
  have k32 : Fr Non w8 w32 := hw32 ▸ k27.alloc _
  have hW32 : Blk w32 b31 68 [.string (mkS []), .string (mkS [])] := hb31 ▸ hw32 ▸ Blk.new w27 _ _
  refine ⟨mayCells_of hW32 0 2 (by simp), ?_⟩
  intro w33 hw33
  have hW : Blk w33 b31 68 [.string (mkS (sg1 m)), .string (mkS (sg2 m))] := hw33 ▸ hW32.setAll rfl
  have z27 := k27.size
  have k33 : Fr Non w8 w33 := hw33 ▸ k32.setAll hW32 (vs := [.string (mkS (sg1 m)), .string (mkS (sg2 m))]) rfl (fun h => absurd h (by omega))
  refine ⟨m.s, hc k33, fun t i w' => ∃ j : Nat, i = j ∧ j ≤ l.length ∧ t = l.length - j ∧ Fr Non w33 w' ∧ ∀ q, q < j → okI l q = true, ⟨l.length, 0, rfl, by omega, by omega, Fr.refl _ _, fun q hq => by omega⟩, ?_⟩
  rintro t i w39 ⟨j, rfl, hj, rfl, f39, hok⟩
  have k39 := k33.trans' f39
  refine ⟨fun h => ?_, fun h => ?_⟩
  · have hj : j < l.length := by have := of_decide_eq_true h; omega
    obtain ⟨a, ha, hn, x, hx, hX⟩ := (hR.fr (f8.trans' k39)).2 j hj
    have hSg := hSG _ (List.getElem_mem hj)
    have hoj : okI l j = okAt j l[j] := by unfold okI; rw [List.getElem?_eq_getElem hj]
    generalize hg : l[j] = g at hn hx hX hSg hoj
    refine ⟨a, ha, ⟨by omega, by omega⟩, g.name, x, ⟨hn, hx, trivial⟩, ?_⟩
    intro b43 w44 hb43 hw44
    have f44 : Fr Non w39 w44 := hw44 ▸ (Fr.refl Non w39).alloc _
    have hG44 : Blk w44 b43 79 [.string (mkS []), .slice none 0 0] := hb43 ▸ hw44 ▸ Blk.new w39 _ _
    refine ⟨mayCells_of hG44 0 2 (by simp), ?_⟩
    intro w45 hw45
    have hG : Blk w45 b43 79 [.string (mkS g.name), .slice x.base x.len x.cap] := hw45 ▸ hG44.setAll rfl
    have f45 : Fr Non w39 w45 := upN f44 (hw45 ▸ (Fr.refl (fun g => g = b43) w44).setAll hG44 (vs := [.string (mkS g.name), .slice x.base x.len x.cap]) rfl (fun _ => rfl)) (fun g hg => by omega)
    have bad : okAt j g = false → ∀ w', Fr Non w39 w' → k (.bool false) w' := fun hb w' f => by
      have := hk _ (f8.trans' (k39.trans' f))
      rw [show (List.range l.length).all (okI l) = false from allR_take hj (by rw [hoj]; exact hb)] at this; exact this
    refine ⟨fun v w' => v = !okAt j g ∧ Fr Non w39 w', ?_, g.name, hG.cell rfl, ?_⟩
    · rintro v w48 ⟨rfl, f48⟩
      refine ⟨fun hv => bad ((Bool.not_eq_true' _).mp hv) _ f48, fun hv => ?_⟩
      have hv := (Bool.not_eq_false' _).mp hv
      refine ⟨l.length - (j + 1), by omega, j + 1, by rw [w64_id (by omega) (by omega)]; push_cast; rfl, by omega, rfl, f39.trans' f48, fun q hq => ?_⟩
      by_cases hqj : q = j
      · subst hqj; rw [hoj]; exact hv
      · exact hok q (by omega)
    · have hnl := hSg.1
      unfold BB at hnl
      refine isName_spec g.name (by omega) fun w50 f50 => ⟨_, rfl, fun hn0 => ⟨?_, f45.trans' f50⟩, fun hn0 => ⟨g.name, (hG.fr f50 (fun h => h)).cell rfl, fun hm => ⟨?_, f45.trans' f50⟩, fun hm => ⟨g.name, x, (hG.fr f50 (fun h => h)).ats [.string (mkS g.name), .slice x.base x.len x.cap] 0 0 (fun q v hq => by simpa using hq), ?_⟩⟩⟩
      · have hn0 := (Bool.not_eq_true' _).mp hn0
        unfold okAt; rw [hn0]; rfl
      · have hn0 := (Bool.not_eq_false' _).mp hn0
        have hm := (Bool.not_eq_true' _).mp hm
        have e0 : (((j : Nat) : Int) == 0) = decide (j = 0) := by rw [Bool.eq_iff_iff]; simp
        rw [e0] at hm
        unfold okAt; rw [hn0, show (g.name == msh) = (g.name == [77, 83, 72]) from rfl, hm]; rfl
      · have hn0 := (Bool.not_eq_false' _).mp hn0
        have hm := (Bool.not_eq_false' _).mp hm
        have e0 : (((j : Nat) : Int) == 0) = decide (j = 0) := by rw [Bool.eq_iff_iff]; simp
        rw [e0] at hm
        refine fits_spec g x (hX.fr RF.stay (f45.trans' f50)) hSg fun w56 f56 => ⟨_, rfl, ?_, (f45.trans' f50).trans' f56⟩
        unfold okAt; rw [hn0, show (g.name == msh) = (g.name == [77, 83, 72]) from rfl, hm]; rfl
  · have hj : j = l.length := by have := of_decide_eq_false h; omega
    subst hj
    rw [show (List.range l.length).all (okI l) = true from allR_all hok, Bool.true_and] at hk
    match l, hl1 with
    | g :: r, _ =>
      obtain ⟨a, ha, B, hn, x, hx, hX⟩ := at0 (hR.fr (f8.trans' k39))
      have hXL := hX.1
      refine ⟨m.s, hc k39, a, ha, B, x, hx, ?_⟩
      rintro w62 rfl
      have f62 : Fr Non w33 w39.drew := f39.drew
      have k62 := k33.trans' f62
      refine ⟨fun h => ?_, fun h => ?_⟩
      · have h2 : 2 ≤ g.flds.length := by have := of_decide_eq_true h; omega
        obtain ⟨a1, ha1, z, hz, hZ⟩ := hX.2 0 (by omega)
        have hh : headB m (g :: r) = (isB g.flds[0] (sg1 m) && isB g.flds[1] (sg2 m)) := by
          show (decide (2 ≤ g.flds.length) && (isB (g.flds.getD 0 []) (sg1 m) && isB (g.flds.getD 1 []) (sg2 m))) = _
          rw [decide_eq_true h2, List.getD_eq_getElem?_getD, List.getD_eq_getElem?_getD, List.getElem?_eq_getElem (by omega), List.getElem?_eq_getElem (by omega)]; rfl
        rw [hh] at hk
        refine ⟨a1, ha1, ⟨by omega, by omega⟩, z, hz, ⟨by omega, by omega⟩, sg1 m, by rw [add_mk]; exact (hW.fr f62 (fun h => h)).cell rfl, ?_⟩
        refine is_spec z g.flds[0] (sg1 m) hZ ⟨_, rfl, fun hb => ?_, fun hb => ?_⟩
        · obtain ⟨a3, ha3, z2, hz2, hZ2⟩ := hX.2 1 (by omega)
          rw [hb, Bool.true_and] at hk
          refine ⟨a3, ha3, ⟨by omega, by omega⟩, z2, hz2, ⟨by omega, by omega⟩, sg2 m, by rw [add_mk]; exact (hW.fr f62 (fun h => h)).cell rfl, ?_⟩
          exact is_spec z2 g.flds[1] (sg2 m) hZ2 ⟨_, rfl, hk _ (f8.trans' k62)⟩
        · have := hk _ (f8.trans' k62)
          rw [hb] at this; exact this
      · have h2 : ¬ 2 ≤ g.flds.length := by have := of_decide_eq_false h; omega
        have := hk _ (f8.trans' k62)
        rw [show headB m (g :: r) = false from by
          show (decide (2 ≤ g.flds.length) && (isB (g.flds.getD 0 []) (sg1 m) && isB (g.flds.getD 1 []) (sg2 m))) = _
          rw [decide_eq_false h2]; rfl] at this; exact this
end
end Go.Proofs.YthpeengmcjpknaaGreatDoor
