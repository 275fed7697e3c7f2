/- head's functions, walked. -/
import Derived.Test.YthpeengmcjpknaaGreatDoorPH1
set_option linter.unusedSimpArgs false
set_option linter.unusedVariables false
namespace Go.Proofs.YthpeengmcjpknaaGreatDoor
open Go.V Go.RowKit
theorem flat_get {α β : Type} {f : α → List β} {n : Nat} (hn : ∀ x, (f x).length = n) : ∀ (l : List α) (j q : Nat) (hj : j < l.length), q < n → (l.flatMap f)[j * n + q]? = (f l[j])[q]?
  | a :: l, 0, q, _, hq => by
    rw [List.flatMap_cons, Nat.zero_mul, Nat.zero_add, List.getElem?_append_left (by rw [hn]; exact hq)]; rfl
  | a :: l, j + 1, q, hj, hq => by
    have := flat_get hn l j q (by simpa using hj) hq
    rw [List.flatMap_cons, List.getElem?_append_right (by rw [hn, Nat.add_mul]; omega), hn, Nat.add_mul, show j * n + 1 * n + q - n = j * n + q by omega, this]; rfl
def opC (x : Pa × Str) : List Value := [.string (mkS x.1.seg), .int .i64 x.1.occ, .int .i64 x.1.fld, .int .i64 x.1.rep, .int .i64 x.1.cmp, .int .i64 x.1.sub, .string (mkS x.2)]
section
variable {w : World} {k : Value → World → Prop}
theorem hat_spec (f c : Int) (hk : ∀ w', Fr Non w w' → k (.agg (List.toArray (pc (hAt f c)))) w') : Cl Tryz.prog 199 [.int .i64 f, .int .i64 c] w k := by
  refine f199_ok ?_
  unfold f199
  intro b3 w4 hb3 hw4
  obtain ⟨m1, n1⟩ := newPa (Fr.refl Non w) (hAt f c) hb3 hw4
  refine ⟨m1, fun w5 hw5 => ?_⟩
  obtain ⟨hP, _, f5⟩ := n1 w5 hw5
  exact ⟨_, _, _, _, _, _, patat hP, hk _ f5⟩
theorem hget_spec (m : Mh) (f c : Int) (l : List Seg) (hR : RM w m.s l) (hS : SmM l) (hk : ∀ w', Fr Non w w' → k (.string (mkS (hd l f c))) w') : Cl Tryz.prog 65 [.agg (List.toArray (mc m)), .agg (List.toArray (pc (hAt f c)))] w k :=
  get_spec m (hAt f c) l hR hS (by show msh.length ≤ _; decide) (by show (-9223372036854775808 : Int) ≤ 1 ∧ (1 : Int) ≤ _; omega) hk
theorem pair_spec (m : Mh) (f c g e : Int) (l : List Seg) (hR : RM w m.s l) (hS : SmM l) (hk : ∀ w', Fr Non w w' → k (.tuple (List.toArray [.string (mkS (hd l f c)), .string (mkS (hd l g e))])) w') : Cl Tryz.prog 198 [.agg (List.toArray (mc m)), .agg (List.toArray (pc (hAt f c))), .agg (List.toArray (pc (hAt g e)))] w k := by
  refine f198_ok ?_
  unfold f198
  intro b19 w20 hb19 hw20 b21 w22 hb21 hw22 b23 w24 hb23 hw24
  have f20 : Fr Non w w20 := hw20 ▸ (Fr.refl Non w).alloc _
  have f22 : Fr Non w20 w22 := hw22 ▸ (Fr.refl Non w20).alloc _
  have f24 : Fr Non w22 w24 := hw24 ▸ (Fr.refl Non w22).alloc _
  have hM : Blk w24 b19 26 (mc m) := ((hb19 ▸ hw20 ▸ Blk.new w _ _ : Blk w20 b19 26 (mc m)).fr f22 (fun h => h)).fr f24 (fun h => h)
  have hP : Blk w24 b21 28 (pc (hAt f c)) := (hb21 ▸ hw22 ▸ Blk.new w20 _ _ : Blk w22 b21 28 (pc (hAt f c))).fr f24 (fun h => h)
  have hQ : Blk w24 b23 28 (pc (hAt g e)) := hb23 ▸ hw24 ▸ Blk.new w22 _ _
  have k24 := (f20.trans' f22).trans' f24
  rintro w25 rfl
  have g25 := (Fr.refl Non w24).drew
  have k25 := k24.trans' g25
  exact ⟨_, _, _, _, _, m.s, msgAts (hM.fr g25 (fun h => h)), _, _, _, _, _, _, patat (hP.fr g25 (fun h => h)), _, _, _, _, _, m.s, msgAts (hM.fr g25 (fun h => h)), _, _, _, _, _, _, patat (hQ.fr g25 (fun h => h)), hget_spec m f c l (hR.fr k25) hS fun w50 f50 => ⟨f50.ext, _, rfl, hget_spec m g e l (hR.fr (k25.trans' f50)) hS fun w53 f53 => ⟨_, rfl, hk _ ((k25.trans' f50).trans' f53)⟩⟩⟩
theorem kind_spec (m : Mh) (l : List Seg) (hR : RM w m.s l) (hS : SmM l) (hk : ∀ w', Fr Non w w' → k (.tuple (List.toArray [.string (mkS (hd l 9 1)), .string (mkS (hd l 9 2))])) w') : Cl Tryz.prog 32 [.agg (List.toArray (mc m))] w k := by
  refine f32_ok ?_
  unfold f32
  intro b7 w8 hb7 hw8
  have f8 : Fr Non w w8 := hw8 ▸ (Fr.refl Non w).alloc _
  have hM : Blk w8 b7 26 (mc m) := hb7 ▸ hw8 ▸ Blk.new w _ _
  rintro w9 rfl
  have g9 := (Fr.refl Non w8).drew
  have k9 := f8.trans' g9
  exact ⟨_, _, _, _, _, m.s, msgAts (hM.fr g9 (fun h => h)), hat_spec 9 1 fun w16 f16 => ⟨f16.ext, _, _, _, _, _, _, rfl, hat_spec 9 2 fun w24 f24 => ⟨f24.ext, _, _, _, _, _, _, rfl, pair_spec m 9 1 9 2 l (hR.fr ((k9.trans' f16).trans' f24)) hS fun w32 f32 => ⟨_, _, rfl, hk _ (((k9.trans' f16).trans' f24).trans' f32)⟩⟩⟩⟩
theorem sender_spec (m : Mh) (l : List Seg) (hR : RM w m.s l) (hS : SmM l) (hk : ∀ w', Fr Non w w' → k (.tuple (List.toArray [.string (mkS (hd l 3 1)), .string (mkS (hd l 4 1))])) w') : Cl Tryz.prog 33 [.agg (List.toArray (mc m))] w k := by
  refine f33_ok ?_
  unfold f33
  intro b7 w8 hb7 hw8
  have f8 : Fr Non w w8 := hw8 ▸ (Fr.refl Non w).alloc _
  have hM : Blk w8 b7 26 (mc m) := hb7 ▸ hw8 ▸ Blk.new w _ _
  rintro w9 rfl
  have g9 := (Fr.refl Non w8).drew
  have k9 := f8.trans' g9
  exact ⟨_, _, _, _, _, m.s, msgAts (hM.fr g9 (fun h => h)), hat_spec 3 1 fun w16 f16 => ⟨f16.ext, _, _, _, _, _, _, rfl, hat_spec 4 1 fun w24 f24 => ⟨f24.ext, _, _, _, _, _, _, rfl, pair_spec m 3 1 4 1 l (hR.fr ((k9.trans' f16).trans' f24)) hS fun w32 f32 => ⟨_, _, rfl, hk _ (((k9.trans' f16).trans' f24).trans' f32)⟩⟩⟩⟩
theorem receiver_spec (m : Mh) (l : List Seg) (hR : RM w m.s l) (hS : SmM l) (hk : ∀ w', Fr Non w w' → k (.tuple (List.toArray [.string (mkS (hd l 5 1)), .string (mkS (hd l 6 1))])) w') : Cl Tryz.prog 34 [.agg (List.toArray (mc m))] w k := by
  refine f34_ok ?_
  unfold f34
  intro b7 w8 hb7 hw8
  have f8 : Fr Non w w8 := hw8 ▸ (Fr.refl Non w).alloc _
  have hM : Blk w8 b7 26 (mc m) := hb7 ▸ hw8 ▸ Blk.new w _ _
  rintro w9 rfl
  have g9 := (Fr.refl Non w8).drew
  have k9 := f8.trans' g9
  exact ⟨_, _, _, _, _, m.s, msgAts (hM.fr g9 (fun h => h)), hat_spec 5 1 fun w16 f16 => ⟨f16.ext, _, _, _, _, _, _, rfl, hat_spec 6 1 fun w24 f24 => ⟨f24.ext, _, _, _, _, _, _, rfl, pair_spec m 5 1 6 1 l (hR.fr ((k9.trans' f16).trans' f24)) hS fun w32 f32 => ⟨_, _, rfl, hk _ (((k9.trans' f16).trans' f24).trans' f32)⟩⟩⟩⟩
theorem control_spec (m : Mh) (l : List Seg) (hR : RM w m.s l) (hS : SmM l) (hk : ∀ w', Fr Non w w' → k (.string (mkS (hd l 10 1))) w') : Cl Tryz.prog 36 [.agg (List.toArray (mc m))] w k := by
  refine f36_ok ?_
  unfold f36
  intro b7 w8 hb7 hw8
  have f8 : Fr Non w w8 := hw8 ▸ (Fr.refl Non w).alloc _
  have hM : Blk w8 b7 26 (mc m) := hb7 ▸ hw8 ▸ Blk.new w _ _
  rintro w9 rfl
  have g9 := (Fr.refl Non w8).drew
  have k9 := f8.trans' g9
  exact ⟨_, _, _, _, _, m.s, msgAts (hM.fr g9 (fun h => h)), hat_spec 10 1 fun w16 f16 => ⟨f16.ext, _, _, _, _, _, _, rfl, hget_spec m 10 1 l (hR.fr (k9.trans' f16)) hS fun w24 f24 => ⟨_, rfl, hk _ ((k9.trans' f16).trans' f24)⟩⟩⟩
theorem version_spec (m : Mh) (l : List Seg) (hR : RM w m.s l) (hS : SmM l) (hk : ∀ w', Fr Non w w' → k (.string (mkS (hd l 12 1))) w') : Cl Tryz.prog 37 [.agg (List.toArray (mc m))] w k := by
  refine f37_ok ?_
  unfold f37
  intro b7 w8 hb7 hw8
  have f8 : Fr Non w w8 := hw8 ▸ (Fr.refl Non w).alloc _
  have hM : Blk w8 b7 26 (mc m) := hb7 ▸ hw8 ▸ Blk.new w _ _
  rintro w9 rfl
  have g9 := (Fr.refl Non w8).drew
  have k9 := f8.trans' g9
  exact ⟨_, _, _, _, _, m.s, msgAts (hM.fr g9 (fun h => h)), hat_spec 12 1 fun w16 f16 => ⟨f16.ext, _, _, _, _, _, _, rfl, hget_spec m 12 1 l (hR.fr (k9.trans' f16)) hS fun w24 f24 => ⟨_, rfl, hk _ ((k9.trans' f16).trans' f24)⟩⟩⟩
theorem sum_lens {C : Nat} : ∀ {l : List (Pa × Str)}, (∀ x ∈ l, x.2.length ≤ C) → (l.map fun x => 300 + x.2.length).sum ≤ l.length * (300 + C)
  | [], _ => by simp
  | x :: l, h => by
    have h1 := sum_lens (l := l) (fun y hy => h y (by simp [hy]))
    have h2 := h x (by simp)
    rw [List.map_cons, List.sum_cons, List.length_cons, Nat.add_mul, Nat.one_mul]; omega
set_option maxHeartbeats 8000000 in
theorem make_spec (d : Dm) (ok : OkD d) (a b : Str × Str) (kind event control version time : Str) (hl : ∀ x ∈ hOps a b kind event control version time, x.2.length ≤ 1000000000) (hG : GMax w)
    (hk : ∀ (y : Sl) w', OwM w' y (mkL d a b kind event control version time) (fun c => w.heap.size ≤ c) → Fr Non w w' → k (.tuple (List.toArray [.agg (List.toArray (mc (mD d y))), .int .i64 0])) w') :
    Cl Tryz.prog 41 [.agg (List.toArray (dvD d)), .agg (List.toArray [.string (mkS a.1), .string (mkS a.2)]), .agg (List.toArray [.string (mkS b.1), .string (mkS b.2)]), .string (mkS kind), .string (mkS event), .string (mkS control), .string (mkS version), .string (mkS time)] w k := by
  refine f41_ok ?_
  unfold f41
  intro b15 w16 hb15 hw16 b17 w18 hb17 hw18 b19 w20 hb19 hw20 b21 w22 hb21 hw22
  have f16 : Fr Non w w16 := hw16 ▸ (Fr.refl Non w).alloc _
  have f18 : Fr Non w16 w18 := hw18 ▸ (Fr.refl Non w16).alloc _
  have f20 : Fr Non w18 w20 := hw20 ▸ (Fr.refl Non w18).alloc _
  have f22 : Fr Non w20 w22 := hw22 ▸ (Fr.refl Non w20).alloc _
  have hD : Blk w22 b15 23 (dvD d) := (((hb15 ▸ hw16 ▸ Blk.new w _ _ : Blk w16 b15 23 (dvD d)).fr f18 (fun h => h)).fr f20 (fun h => h)).fr f22 (fun h => h)
  have hA : Blk w22 b17 68 [.string (mkS a.1), .string (mkS a.2)] := ((hb17 ▸ hw18 ▸ Blk.new w16 _ _ : Blk w18 b17 _ [.string (mkS a.1), .string (mkS a.2)]).fr f20 (fun h => h)).fr f22 (fun h => h)
  have hB : Blk w22 b19 68 [.string (mkS b.1), .string (mkS b.2)] := (hb19 ▸ hw20 ▸ Blk.new w18 _ _ : Blk w20 b19 _ [.string (mkS b.1), .string (mkS b.2)]).fr f22 (fun h => h)
  have hO : Blk w22 b21 26 (mc mz) := hb21 ▸ hw22 ▸ Blk.new w20 _ _
  have k22 := ((f16.trans' f18).trans' f20).trans' f22
  have dAt : ∀ {u}, Fr Non w22 u → cellsAt u ⟨b15, 0, none⟩ 0 (dvD d) := fun f => (hD.fr f (fun h => h)).ats (dvD d) 0 0 (fun q v hq => by simpa using hq)
  refine ⟨_, _, _, _, _, dAt (Fr.refl _ _), dvalid_spec (mD d ⟨none, 0, 0⟩) fun w28 f28 => ⟨_, rfl, fun h => ?_, fun _ => ⟨_, _, _, _, _, dAt f28, dhead_spec d ok fun w43 f43 => ⟨_, rfl, ?_⟩⟩⟩⟩
  · rw [dv_ok ok] at h; cases h
  obtain ⟨p1, p2, p3⟩ := tx_head ok
  have k43 := f28.trans' f43
  refine parse_u (headS d) (hG.fr (k22.trans' k43) (fun h => h)) fun y0 w46 hy0 f46 => ⟨_, _, _, _, _, y0, _, rfl, ?_⟩
  intro b55 w56 hb55 hw56
  obtain ⟨m1, n1⟩ := msgVar (mD (txD (headS d)) y0) hb55 hw56
  refine ⟨m1, fun w57 hw57 => ?_⟩
  obtain ⟨hX, f57⟩ := n1 w57 hw57
  rw [p2] at hX
  rw [p3] at hy0
  rintro w58 rfl
  have g58 := (Fr.refl Non w57).drew
  have k58 := k43.trans' (f46.trans' (f57.trans' g58))
  have hA58 := hA.fr k58 (fun h => h)
  have hB58 := hB.fr k58 (fun h => h)
  refine ⟨⟨by omega, by omega⟩, a.1, by rw [add_mk]; exact hA58.cell rfl, ⟨by omega, by omega⟩, a.2, by rw [add_mk]; exact hA58.cell rfl, ⟨by omega, by omega⟩, b.1, by rw [add_mk]; exact hB58.cell rfl, ⟨by omega, by omega⟩, b.2, by rw [add_mk]; exact hB58.cell rfl, ?_⟩
  refine hat_spec 3 1 fun u1 e1 => ⟨e1.ext, _, _, _, _, _, _, rfl, hat_spec 4 1 fun u2 e2 => ⟨e2.ext, _, _, _, _, _, _, rfl, hat_spec 5 1 fun u3 e3 => ⟨e3.ext, _, _, _, _, _, _, rfl, hat_spec 6 1 fun u4 e4 => ⟨e4.ext, _, _, _, _, _, _, rfl, hat_spec 7 1 fun u5 e5 => ⟨e5.ext, _, _, _, _, _, _, rfl, hat_spec 9 1 fun u6 e6 => ⟨e6.ext, _, _, _, _, _, _, rfl, hat_spec 9 2 fun u7 e7 => ⟨e7.ext, _, _, _, _, _, _, rfl, hat_spec 10 1 fun u8 e8 => ⟨e8.ext, _, _, _, _, _, _, rfl, hat_spec 11 1 fun u9 e9 => ⟨e9.ext, _, _, _, _, _, _, rfl, hat_spec 12 1 fun u10 e10 => ⟨e10.ext, _, _, _, _, _, _, rfl, ?_⟩⟩⟩⟩⟩⟩⟩⟩⟩⟩
  obtain ⟨ops, hops⟩ : ∃ ops, ops = hOps a b kind event control version time := ⟨_, rfl⟩
  have hle : ops.length = 10 := by rw [hops]; rfl
  have hok : ∀ x ∈ ops, HOk x := by rw [hops]; exact hOps_ok a b kind event control version time
  rw [← hops] at hl
  have e11 := ((((((((e1.trans' e2).trans' e3).trans' e4).trans' e5).trans' e6).trans' e7).trans' e8).trans' e9).trans' e10
  intro b143 w144 hb143 hw144
  have f144 : Fr Non u10 w144 := hw144 ▸ (Fr.refl Non u10).alloc _
  have hL : Blk w144 b143 189 (ops.flatMap opC) := by rw [hops]; exact hb143 ▸ hw144 ▸ Blk.new u10 _ _
  have j144 := (f57.trans' g58).trans' (e11.trans' f144)
  have i144 := (g58.trans' e11).trans' f144
  have k144 := k58.trans' (e11.trans' f144)
  have hX144 := hX.fr i144 (fun h => h)
  have hO144 := hO.fr k144 (fun h => h)
  have hy144 := OwM.rd (hy0.fr (fun _ => EG.st) j144 (fun _ _ h => h))
  have lX := hX144.lt
  have lO := hO144.lt
  have lL := hL.lt
  have lb55 : b55 = w46.heap.size := hb55
  have s22 := k22.size
  have s43 := k43.size
  have s46 := f46.size
  have s144 := k144.size
  have lO22 := hO.lt
  have e143 : b143 = u10.heap.size := hb143
  have s58 := g58.size
  have s57 := f57.size
  have se10 := e11.size
  have lX57 := hX.lt
  have hv0 : validM (mD d y0) (L0 d) = true := valid_of (Dg_mD d y0) (by rw [dm_mD]; exact ok_L0 ok)
  have hb0 : bkM (L0 d) ≤ 100 := by simp [L0, bkM, bkL, bkG, bkS, bkF, bkR, bkC, one1', msh]
  have stp : ∀ j, validM (mD d y0) (setAll (L0 d) (ops.take j)) = true ∧ nmL (setAll (L0 d) (ops.take j)) = [msh] ∧ bkM (setAll (L0 d) (ops.take j)) ≤ 10100000000 := by
    intro j
    have ht : ∀ x ∈ ops.take j, x ∈ ops := fun x hx => List.mem_of_mem_take hx
    obtain ⟨q1, _, q3, q4, _⟩ := setAll_ok (m := mD d y0) (ops := ops.take j) (fun x hx => hok x (ht x hx)) hv0 (can_L0 d)
    have hs := sum_lens (C := 1000000000) (l := ops.take j) (fun x hx => hl x (ht x hx))
    have hlt : (ops.take j).length ≤ 10 := by rw [List.length_take]; omega
    have := Nat.mul_le_mul_right (300 + 1000000000) hlt
    exact ⟨q1, q3, by omega⟩
  refine ⟨fun q e i w' => ∃ (j : Nat) (y : Sl), i = j ∧ j ≤ 10 ∧ q = 10 - j ∧ e = 0 ∧ Blk w' b55 26 (mc (mD d y)) ∧ RM w' y (setAll (L0 d) (ops.take j)) ∧ (1 ≤ j → OwM w' y (setAll (L0 d) (ops.take j)) (fun c => w144.heap.size ≤ c)) ∧ Fr (fun g => g = b55) w144 w', ⟨10, 0, y0, rfl, by omega, rfl, p1, hX144, hy144, fun h => by omega, Fr.refl _ _⟩, ?_⟩
  rintro q e i w150 ⟨j, y, rfl, hj, rfl, rfl, hX150, hR150, hO150, f150⟩
  have s150 := f150.size
  refine ⟨fun h => ?_, fun h => ?_⟩
  · have hj : j < 10 := by have := of_decide_eq_true h; omega
    obtain ⟨t1, t2, t3⟩ := stp j
    obtain ⟨x, hx⟩ : ∃ x, x = ops[j]'(by omega) := ⟨_, rfl⟩
    have hxm : x ∈ ops := by rw [hx]; exact List.getElem_mem _
    refine ⟨fun e w' => e = 0 ∧ ∃ y, Blk w' b55 26 (mc (mD d y)) ∧ OwM w' y (setAll (L0 d) (ops.take (j + 1))) (fun c => w144.heap.size ≤ c) ∧ Fr (fun g => g = b55) w144 w', ?_, ⟨b143, 0, none⟩, rfl, ⟨by omega, by show (j : Int) < ((10 : Nat) : Int); omega⟩, x.1.seg, x.1.occ, x.1.fld, x.1.rep, x.1.cmp, x.1.sub, x.2, ?_, ?_⟩
    · rintro e w153 ⟨rfl, y', r1, r2, r3⟩
      exact ⟨10 - (j + 1), by omega, j + 1, y', by rw [w64_id (by omega) (by omega)]; push_cast; rfl, by omega, rfl, rfl, r1, OwM.rd r2, fun _ => r2, r3⟩
    · have hL150 := hL.fr f150 (by omega)
      rw [Int.toNat_natCast, add_mk]
      refine hL150.ats (opC x) _ 0 (fun q v hq => ?_)
      have hq7 : q < 7 := by
        have := (List.getElem?_eq_some_iff.1 hq).1; simpa [opC] using this
      rw [Nat.zero_add, Nat.add_zero, flat_get (f := opC) (n := 7) (fun _ => rfl) ops j q (by omega) hq7, ← hx]; exact hq
    intro b162 w163 hb162 hw163
    have f163 : Fr Non w150 w163 := hw163 ▸ (Fr.refl Non _).alloc _
    have hV : Blk w163 b162 189 [.string (mkS []), .int .i64 0, .int .i64 0, .int .i64 0, .int .i64 0, .int .i64 0, .string (mkS [])] := hb162 ▸ hw163 ▸ Blk.new _ _ _
    refine ⟨mayCells_of hV 0 7 (by simp), fun w164 hw164 => ?_⟩
    have hV164 : Blk w164 b162 189 (opC x) := hw164 ▸ hV.setAll rfl
    have e162 : b162 = w150.heap.size := hb162
    have f164 : Fr Non w150 w164 := upN f163 (hw164 ▸ (Fr.refl (fun g => g = b162) w163).setAll hV (vs := opC x) rfl (fun _ => rfl)) (fun g hg => by omega)
    refine ⟨fun _ => ?_, fun h => by cases h⟩
    have hX164 := hX150.fr f164 (fun h => h)
    obtain ⟨f, c, ex, hm, hf, hc, h1⟩ := hok x hxm
    have hse : setE (mD d y) (setAll (L0 d) (ops.take j)) x.1 = 0 := by
      rw [ex]; exact set_hd (m := mD d y) t1 hm hf hc h1
    have hll : (setAll (L0 d) (ops.take j)).length = 1 := by
      have := congrArg List.length t2; simpa [nmL] using this
    have etk : setAll (L0 d) (ops.take (j + 1)) = stL (setAll (L0 d) (ops.take j)) x.1 x.2 := by
      rw [take_snoc (by omega : j < ops.length), setAll_app, ← hx]; rfl
    have s164 := f164.size
    refine ⟨_, _, _, _, _, y, msgAts hX164, _, _, _, _, _, _, hV164.ats (pc x.1) 0 0 (fun q v hq => ?_), x.2, by rw [add_mk]; exact hV164.cell rfl, setP_spec (mD d y) x.1 x.2 (setAll (L0 d) (ops.take j)) (hR150.fr f164) (SmM_of (by unfold BB; omega)) (Dg_mD d y) (by rw [ex]; show msh.length ≤ _; decide) (by rw [ex]; show (-9223372036854775808 : Int) ≤ 1 ∧ (1 : Int) ≤ _; omega) (by have := hl x hxm; unfold BB; omega) (by rw [hll]; unfold BB; omega) (fun _ y2 w178 hy2 f178 => ?_) (fun h => absurd hse h)⟩
    · have hq6 : q < 6 := by
        have := (List.getElem?_eq_some_iff.1 hq).1; simpa [pc] using this
      rw [Nat.zero_add]
      have : opC x = pc x.1 ++ [.string (mkS x.2)] := rfl
      rw [this, List.getElem?_append_left (by simpa [pc] using hq6)]; exact hq
    refine ⟨_, _, _, _, _, y2, _, rfl, ?_⟩
    have hX178 := hX164.fr f178 (fun h => h)
    refine ⟨mayCells_of hX178 0 6 (by simp [mc]), fun w187 hw187 => ⟨rfl, y2, hw187 ▸ hX178.setAll (vs := mc (mD d y2)) rfl, ?_, ?_⟩⟩
    · have r187 : Fr (fun g => g = b55) w178 w187 := hw187 ▸ (Fr.refl (fun g => g = b55) w178).setAll hX178 (vs := mc (mD d y2)) rfl (fun _ => rfl)
      rw [etk]
      exact (hy2.fr (fun _ => EG.st) r187 (fun c hc e => by have hc : w164.heap.size ≤ c := hc; omega)).mono fun c hc => by have hc : w164.heap.size ≤ c := hc; show w144.heap.size ≤ c; omega
    · have r187 : Fr (fun g => g = b55) w178 w187 := hw187 ▸ (Fr.refl (fun g => g = b55) w178).setAll hX178 (vs := mc (mD d y2)) rfl (fun _ => rfl)
      exact (f150.trans' ((f164.trans' f178).mono fun _ _ h => h.elim)).trans' r187
  · have hj : j = 10 := by have := of_decide_eq_false h; omega
    subst hj
    have hO150' := hO150 (by omega)
    rw [show ops.take 10 = ops from List.take_of_length_le (by omega), hops] at hO150'
    have hO21 := hO144.fr f150 (by omega)
    refine ⟨_, _, _, _, _, y, msgAts hX150, mayCells_of hO21 0 6 (by simp [mc, mz]), fun w194 hw194 => ?_⟩
    have hZ : Blk w194 b21 26 (mc (mD d y)) := hw194 ▸ hO21.setAll (vs := mc (mD d y)) rfl
    have r194 : Fr (fun g => g = b21) w150 w194 := hw194 ▸ (Fr.refl (fun g => g = b21) w150).setAll hO21 (vs := mc (mD d y)) rfl (fun _ => rfl)
    refine ⟨_, _, _, _, _, y, msgAts hZ, hk y w194 ?_ ?_⟩
    · exact (hO150'.fr (fun _ => EG.st) r194 (fun c hc e => by have hc : w144.heap.size ≤ c := hc; omega)).mono fun c hc => by have hc : w144.heap.size ≤ c := hc; show w.heap.size ≤ c; omega
    · have e21 : b21 = w20.heap.size := hb21
      have s20 := ((f16.trans' f18).trans' f20).size
      exact upN (upN (k22.trans' k144) f150 (fun g hg => by omega)) r194 (fun g hg => by omega)
end
end Go.Proofs.YthpeengmcjpknaaGreatDoor
