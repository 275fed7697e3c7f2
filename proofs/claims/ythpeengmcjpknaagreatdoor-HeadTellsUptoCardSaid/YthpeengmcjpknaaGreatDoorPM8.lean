/- Lists with an element changed; a value laid at a place of a field. -/
import Derived.Test.YthpeengmcjpknaaGreatDoorPM4
import Derived.Test.YthpeengmcjpknaaGreatDoorPVR
set_option linter.unusedSimpArgs false
set_option linter.unusedVariables false
namespace Go.Proofs.YthpeengmcjpknaaGreatDoor
open Go.V Go.RowKit
theorem Sls.snoc {α : Type} {R : World → Sl → List α → Prop} {w : World} {xs : List Value} {l : List (List α)} (h : Sls R w xs l) {z : Sl} {x : List α} (hz : R w z x) : Sls R w (xs ++ [.slice z.base z.len z.cap]) (l ++ [x]) := by
  obtain ⟨h1, h2⟩ := h
  refine ⟨by simp [h1], fun i hi => ?_⟩
  by_cases hlt : i < l.length
  · obtain ⟨y, e, hr⟩ := h2 i hlt
    exact ⟨y, by rw [List.getElem?_append_left (by omega)]; exact e, by rw [List.getElem_append_left hlt]; exact hr⟩
  · have : i = l.length := by simp at hi; omega
    subst this
    refine ⟨z, by rw [List.getElem?_append_right (by omega), h1]; simp, ?_⟩
    simpa using hz
theorem Sls.set {α : Type} {R R' : World → Sl → List α → Prop} {w w' : World} {xs : List Value} {l : List (List α)} (h : Sls R w xs l) {j : Nat} {y : Sl} {x : List α} (hy : R' w' y x) (hk : ∀ z m, m ∈ l → R w z m → R' w' z m) : Sls R' w' (xs.set j (.slice y.base y.len y.cap)) (l.set j x) := by
  obtain ⟨h1, h2⟩ := h
  refine ⟨by simp [h1], fun i hi => ?_⟩
  have hi' : i < l.length := by simpa using hi
  by_cases hij : i = j
  · subst hij
    exact ⟨y, by simp [h1, hi'], by simpa using hy⟩
  · obtain ⟨z, e, hr⟩ := h2 i hi'
    exact ⟨z, by rw [List.getElem?_set_ne (by omega)]; exact e, by rw [List.getElem_set_ne (by omega)]; exact hk _ _ (List.getElem_mem hi') hr⟩
theorem heap_ne {w : World} {a : Addr} {v : Value} {b : Nat} (h : b ≠ a.block) : (w.setCell a v).heap[b]? = w.heap[b]? := Below.heap_setCell _ _ _ _ h
section
variable {w : World} {k : Value → World → Prop} {D : Nat → Prop}
theorem clone3_spec (x : Sl) (l : List (List Rept)) (hx : RdLD D 1 (RdSlD D 1 (RRD D)) w x l) (hl : l.length ≤ BB) (hk : ∀ s xs w', Sls (RdLD D 1 (RRD D)) w xs l → (∀ v ∈ xs, v.oneCell' = true) → SlOk w' 44 1 s xs (fun b => w.heap.size ≤ b ∧ b < w'.heap.size) → Fr Non w w' → k (.slice s.base s.len s.cap) w') : Cl Tryz.prog 303 [.slice x.base x.len x.cap] w k := by
  refine f303_ok ?_
  unfold f303
  unfold BB at hl
  have hL := hx.1
  obtain ⟨xs, h1, h2, h3, h4⟩ := hx.sls
  refine ⟨fun h => ?_, fun h b2 w3 hb2 hw3 => ?_⟩
  · have hn : x.base = none := by cases hb : x.base with
      | none => rfl
      | some a => rw [hb] at h; cases h
    have : xs = [] := by
      cases hxs : xs with
      | nil => rfl
      | cons v r =>
        obtain ⟨a, ha, _⟩ := h4 0 v (by rw [hxs]; rfl)
        rw [hn] at ha; cases ha
    subst this
    exact hk ⟨none, 0, 0⟩ [] w h1 h2 (SlOk.nil _ _ _ _) (Fr.refl _ _)
  · obtain ⟨s', w', hr, hs, hlen, hf⟩ := clone_cells (P := Tryz.prog) (sz := 1) kU47 kS64 kZ64 kB64 rfl (by omega) (x := x) (xs := xs) (by omega) h4 h2 h (by omega) (by omega) hb2 hw3 45
    exact ⟨s', w', hr, hk s' xs w' h1 h2 hs hf⟩
set_option maxHeartbeats 1000000 in
theorem with3_spec (x : Sl) (n : Int) (g : List Rept → List Rept) (change : Value) (l : List (List Rept)) (hx : RdLD D 1 (RdSlD D 1 (RRD D)) w x l) (hD : ∀ b, D b → b < w.heap.size) (hn1 : 1 ≤ n) (hn2 : n ≤ 1000) (hl : l.length ≤ BB)
    (hch : ∀ (z : Sl) (le : List Rept) (w1 : World) (k1 : Value → World → Prop), RdLD D 1 (RRD D) w1 z le → Fr Non w w1 → (le ∈ l ∨ le = []) → (∀ (y : Sl) (w2 : World), RdLD (fun b => D b ∨ w1.heap.size ≤ b) 1 (RRD (fun b => D b ∨ w1.heap.size ≤ b)) w2 y (g le) → Fr Non w1 w2 → k1 (.slice y.base y.len y.cap) w2) → Cv Tryz.prog change [.slice z.base z.len z.cap] w1 k1)
    (hk : ∀ (y : Sl) (w' : World), RdLD (fun b => D b ∨ w.heap.size ≤ b) 1 (RdSlD (fun b => D b ∨ w.heap.size ≤ b) 1 (RRD (fun b => D b ∨ w.heap.size ≤ b))) w' y (wthN n.toNat g l) → Fr Non w w' → k (.slice y.base y.len y.cap) w') : Cl Tryz.prog 217 [.slice x.base x.len x.cap, .int .i64 n, change] w k := by
  refine f217_ok ?_
  unfold f217
  refine clone3_spec x l hx hl fun s0 xs0 w4 hS0 one0 ok0 f4 => ⟨s0, rfl, ?_⟩
  unfold BB at hl
  have hl0 := ok0.len
  have hsl0 := hS0.1
  have e1 : IntKind.i64.wrap (n - 1) = n - 1 := w64_id (by omega) (by omega)
  rw [e1]
  refine ⟨fun t out w' => ∃ (j : Nat) (xs : List Value), t = n.toNat - out.len ∧ out.len = l.length + j ∧ j ≤ n.toNat - l.length ∧ SlOk w' 44 1 out xs (fun b => w.heap.size ≤ b ∧ b < w'.heap.size) ∧ Sls (RdLD D 1 (RRD D)) w xs (l ++ List.replicate j []) ∧ Fr Non w w',
    ⟨n.toNat - s0.len, 0, xs0, rfl, by omega, by omega, ok0, by simpa using hS0, f4⟩, ?_⟩
  rintro t out w11 ⟨j, xs, rfl, hlen, hj, hok, hS, f11⟩
  refine ⟨fun h b12 w13 hb12 hw13 => ?_, fun h => ?_⟩
  · have h := of_decide_eq_true h
    obtain ⟨s', w', hr, hs, hlen', hf⟩ := push_cell (P := Tryz.prog) (sz := 1) kU47 kS64 kZ64 kB64 rfl (by omega) hok (cx := [.slice none 0 0]) rfl (by intro v hv; simp at hv; subst hv; rfl) (by omega) (by omega) hb12 hw13 (fun g hg => hg.2) 1 45
    have z11 := f11.size
    have zf := hf.size
    refine ⟨s', w', hr, n.toNat - s'.len, by omega, j + 1, _, rfl, by omega, by omega, hs.mono (fun b hb => by omega), ?_, upN f11 hf (fun g hg => hg.1)⟩
    rw [List.replicate_succ', ← List.append_assoc]
    exact Sls.snoc hS (z := ⟨none, 0, 0⟩) RdLD.nil
  · have h := of_decide_eq_false h
    have hj : j = n.toNat - l.length := by omega
    have hL : (l ++ List.replicate j []).length = l.length + j := by simp
    have hi : n.toNat - 1 < (l ++ List.replicate j []).length := by omega
    obtain ⟨z, hz, hZ⟩ := hS.2 _ hi
    obtain ⟨a, ha, hc⟩ := hok.at hz
    have e2 : (n - 1).toNat = n.toNat - 1 := by omega
    have hmem : (l ++ List.replicate j [])[n.toNat - 1] ∈ l ∨ (l ++ List.replicate j [])[n.toNat - 1] = [] := by
      rcases List.mem_append.1 (List.getElem_mem hi) with h | h
      · exact .inl h
      · exact .inr (List.eq_of_mem_replicate h)
    have B : (0 : Int) ≤ n - 1 ∧ n - 1 < (out.len : Int) := by omega
    rw [e2, Nat.mul_one]
    refine ⟨a, ha, B, z, hc, hch z _ w11 _ (hZ.kp RRD.kp fun b hb => f11.blk b (hD b hb) (fun h => h)) f11 hmem fun y w18 hy f18 => ⟨y, rfl, a, ha, B, ?_⟩⟩
    obtain ⟨a', ha', hFa, i1, i2, hok2⟩ := (hok.fr f18 (fun _ _ h => h)).setv (j := n.toNat - 1) (by have := hS.1; omega) (.slice y.base y.len y.cap)
    rw [ha] at ha'; cases ha'
    refine ⟨i1, i2, ?_⟩
    rintro w22 rfl
    have hblk : (a.add (n.toNat - 1)).block = a.block := block_add _ _
    have z11 := f11.size
    have f22 : Fr Non w (w18.setCell (a.add (n.toNat - 1)) (.slice y.base y.len y.cap)) := (f11.trans' f18).set (a := a.add (n.toNat - 1)) (fun h => by rw [hblk] at h; omega) _
    refine hk out _ ?_ f22
    have hS2 : Sls (RdLD (fun b => D b ∨ w.heap.size ≤ b) 1 (RRD (fun b => D b ∨ w.heap.size ≤ b))) (w18.setCell (a.add (n.toNat - 1)) (.slice y.base y.len y.cap)) (xs.set (n.toNat - 1) (.slice y.base y.len y.cap)) ((l ++ List.replicate j []).set (n.toNat - 1) (g (l ++ List.replicate j [])[n.toNat - 1])) := by
      refine Sls.set hS ?_ ?_
      · refine (hy.kp RRD.kp fun b hb => heap_ne ?_).imp (fun b hb => ?_) (fun _ _ h => RRD.mono h (fun b hb => hb.imp id (fun h => by omega)))
        · rw [hblk]; rintro rfl
          rcases hb with hb | hb
          · have := hD _ hb; omega
          · omega
        · exact hb.imp id (fun h => by omega)
      · intro z m _ hz
        refine (hz.kp RRD.kp fun b hb => ?_).imp (fun b hb => .inl hb) (fun _ _ h => RRD.mono h (fun b hb => .inl hb))
        exact f22.blk b (hD b hb) (fun h => h)
    have := Sls.rd hok2 hS2 (fun b hb => .inr hb.1)
    rw [show wthN n.toNat g l = (l ++ List.replicate j []).set (n.toNat - 1) (g (l ++ List.replicate j [])[n.toNat - 1]) from by
      unfold wthN; rw [← hj, List.getD_eq_getElem?_getD, List.getElem?_eq_getElem hi]; rfl]
    exact this
theorem clone2_spec (x : Sl) (l : List (List Cmp)) (hx : RdLD D 1 (RdSlD D 1 (RCD D)) w x l) (hl : l.length ≤ BB) (hk : ∀ s xs w', Sls (RdLD D 1 (RCD D)) w xs l → (∀ v ∈ xs, v.oneCell' = true) → SlOk w' 38 1 s xs (fun b => w.heap.size ≤ b ∧ b < w'.heap.size) → Fr Non w w' → k (.slice s.base s.len s.cap) w') : Cl Tryz.prog 304 [.slice x.base x.len x.cap] w k := by
  refine f304_ok ?_
  unfold f304
  unfold BB at hl
  have hL := hx.1
  obtain ⟨xs, h1, h2, h3, h4⟩ := hx.sls
  refine ⟨fun h => ?_, fun h b2 w3 hb2 hw3 => ?_⟩
  · have hn : x.base = none := by cases hb : x.base with
      | none => rfl
      | some a => rw [hb] at h; cases h
    have : xs = [] := by
      cases hxs : xs with
      | nil => rfl
      | cons v r =>
        obtain ⟨a, ha, _⟩ := h4 0 v (by rw [hxs]; rfl)
        rw [hn] at ha; cases ha
    subst this
    exact hk ⟨none, 0, 0⟩ [] w h1 h2 (SlOk.nil _ _ _ _) (Fr.refl _ _)
  · obtain ⟨s', w', hr, hs, hlen, hf⟩ := clone_cells (P := Tryz.prog) (sz := 1) kU64 kS65 kZ65 kB65 rfl (by omega) (x := x) (xs := xs) (by omega) h4 h2 h (by omega) (by omega) hb2 hw3 44
    exact ⟨s', w', hr, hk s' xs w' h1 h2 hs hf⟩
set_option maxHeartbeats 1000000 in
theorem with2_spec (x : Sl) (n : Int) (g : List Cmp → List Cmp) (change : Value) (l : List (List Cmp)) (hx : RdLD D 1 (RdSlD D 1 (RCD D)) w x l) (hD : ∀ b, D b → b < w.heap.size) (hn1 : 1 ≤ n) (hn2 : n ≤ 1000) (hl : l.length ≤ BB)
    (hch : ∀ (z : Sl) (le : List Cmp) (w1 : World) (k1 : Value → World → Prop), RdLD D 1 (RCD D) w1 z le → Fr Non w w1 → (le ∈ l ∨ le = []) → (∀ (y : Sl) (w2 : World), RdLD (fun b => D b ∨ w1.heap.size ≤ b) 1 (RCD (fun b => D b ∨ w1.heap.size ≤ b)) w2 y (g le) → Fr Non w1 w2 → k1 (.slice y.base y.len y.cap) w2) → Cv Tryz.prog change [.slice z.base z.len z.cap] w1 k1)
    (hk : ∀ (y : Sl) (w' : World), RdLD (fun b => D b ∨ w.heap.size ≤ b) 1 (RdSlD (fun b => D b ∨ w.heap.size ≤ b) 1 (RCD (fun b => D b ∨ w.heap.size ≤ b))) w' y (wthN n.toNat g l) → Fr Non w w' → k (.slice y.base y.len y.cap) w') : Cl Tryz.prog 219 [.slice x.base x.len x.cap, .int .i64 n, change] w k := by
  refine f219_ok ?_
  unfold f219
  refine clone2_spec x l hx hl fun s0 xs0 w4 hS0 one0 ok0 f4 => ⟨s0, rfl, ?_⟩
  unfold BB at hl
  have hl0 := ok0.len
  have hsl0 := hS0.1
  have e1 : IntKind.i64.wrap (n - 1) = n - 1 := w64_id (by omega) (by omega)
  rw [e1]
  refine ⟨fun t out w' => ∃ (j : Nat) (xs : List Value), t = n.toNat - out.len ∧ out.len = l.length + j ∧ j ≤ n.toNat - l.length ∧ SlOk w' 38 1 out xs (fun b => w.heap.size ≤ b ∧ b < w'.heap.size) ∧ Sls (RdLD D 1 (RCD D)) w xs (l ++ List.replicate j []) ∧ Fr Non w w',
    ⟨n.toNat - s0.len, 0, xs0, rfl, by omega, by omega, ok0, by simpa using hS0, f4⟩, ?_⟩
  rintro t out w11 ⟨j, xs, rfl, hlen, hj, hok, hS, f11⟩
  refine ⟨fun h b12 w13 hb12 hw13 => ?_, fun h => ?_⟩
  · have h := of_decide_eq_true h
    obtain ⟨s', w', hr, hs, hlen', hf⟩ := push_cell (P := Tryz.prog) (sz := 1) kU64 kS65 kZ65 kB65 rfl (by omega) hok (cx := [.slice none 0 0]) rfl (by intro v hv; simp at hv; subst hv; rfl) (by omega) (by omega) hb12 hw13 (fun g hg => hg.2) 1 44
    have z11 := f11.size
    have zf := hf.size
    refine ⟨s', w', hr, n.toNat - s'.len, by omega, j + 1, _, rfl, by omega, by omega, hs.mono (fun b hb => by omega), ?_, upN f11 hf (fun g hg => hg.1)⟩
    rw [List.replicate_succ', ← List.append_assoc]
    exact Sls.snoc hS (z := ⟨none, 0, 0⟩) RdLD.nil
  · have h := of_decide_eq_false h
    have hj : j = n.toNat - l.length := by omega
    have hL : (l ++ List.replicate j []).length = l.length + j := by simp
    have hi : n.toNat - 1 < (l ++ List.replicate j []).length := by omega
    obtain ⟨z, hz, hZ⟩ := hS.2 _ hi
    obtain ⟨a, ha, hc⟩ := hok.at hz
    have e2 : (n - 1).toNat = n.toNat - 1 := by omega
    have hmem : (l ++ List.replicate j [])[n.toNat - 1] ∈ l ∨ (l ++ List.replicate j [])[n.toNat - 1] = [] := by
      rcases List.mem_append.1 (List.getElem_mem hi) with h | h
      · exact .inl h
      · exact .inr (List.eq_of_mem_replicate h)
    have B : (0 : Int) ≤ n - 1 ∧ n - 1 < (out.len : Int) := by omega
    rw [e2, Nat.mul_one]
    refine ⟨a, ha, B, z, hc, hch z _ w11 _ (hZ.kp RCD.kp fun b hb => f11.blk b (hD b hb) (fun h => h)) f11 hmem fun y w18 hy f18 => ⟨y, rfl, a, ha, B, ?_⟩⟩
    obtain ⟨a', ha', hFa, i1, i2, hok2⟩ := (hok.fr f18 (fun _ _ h => h)).setv (j := n.toNat - 1) (by have := hS.1; omega) (.slice y.base y.len y.cap)
    rw [ha] at ha'; cases ha'
    refine ⟨i1, i2, ?_⟩
    rintro w22 rfl
    have hblk : (a.add (n.toNat - 1)).block = a.block := block_add _ _
    have z11 := f11.size
    have f22 : Fr Non w (w18.setCell (a.add (n.toNat - 1)) (.slice y.base y.len y.cap)) := (f11.trans' f18).set (a := a.add (n.toNat - 1)) (fun h => by rw [hblk] at h; omega) _
    refine hk out _ ?_ f22
    have hS2 : Sls (RdLD (fun b => D b ∨ w.heap.size ≤ b) 1 (RCD (fun b => D b ∨ w.heap.size ≤ b))) (w18.setCell (a.add (n.toNat - 1)) (.slice y.base y.len y.cap)) (xs.set (n.toNat - 1) (.slice y.base y.len y.cap)) ((l ++ List.replicate j []).set (n.toNat - 1) (g (l ++ List.replicate j [])[n.toNat - 1])) := by
      refine Sls.set hS ?_ ?_
      · refine (hy.kp RCD.kp fun b hb => heap_ne ?_).imp (fun b hb => ?_) (fun _ _ h => RCD.mono h (fun b hb => hb.imp id (fun h => by omega)))
        · rw [hblk]; rintro rfl
          rcases hb with hb | hb
          · have := hD _ hb; omega
          · omega
        · exact hb.imp id (fun h => by omega)
      · intro z m _ hz
        refine (hz.kp RCD.kp fun b hb => ?_).imp (fun b hb => .inl hb) (fun _ _ h => RCD.mono h (fun b hb => .inl hb))
        exact f22.blk b (hD b hb) (fun h => h)
    have := Sls.rd hok2 hS2 (fun b hb => .inr hb.1)
    rw [show wthN n.toNat g l = (l ++ List.replicate j []).set (n.toNat - 1) (g (l ++ List.replicate j [])[n.toNat - 1]) from by
      unfold wthN; rw [← hj, List.getD_eq_getElem?_getD, List.getElem?_eq_getElem hi]; rfl]
    exact this
theorem clone1_spec (x : Sl) (l : List (List Str)) (hx : RdLD D 1 (RdSlD D 1 RdStr) w x l) (hl : l.length ≤ BB) (hk : ∀ s xs w', Sls (RdLD D 1 RdStr) w xs l → (∀ v ∈ xs, v.oneCell' = true) → SlOk w' 80 1 s xs (fun b => w.heap.size ≤ b ∧ b < w'.heap.size) → Fr Non w w' → k (.slice s.base s.len s.cap) w') : Cl Tryz.prog 305 [.slice x.base x.len x.cap] w k := by
  refine f305_ok ?_
  unfold f305
  unfold BB at hl
  have hL := hx.1
  obtain ⟨xs, h1, h2, h3, h4⟩ := hx.sls
  refine ⟨fun h => ?_, fun h b2 w3 hb2 hw3 => ?_⟩
  · have hn : x.base = none := by cases hb : x.base with
      | none => rfl
      | some a => rw [hb] at h; cases h
    have : xs = [] := by
      cases hxs : xs with
      | nil => rfl
      | cons v r =>
        obtain ⟨a, ha, _⟩ := h4 0 v (by rw [hxs]; rfl)
        rw [hn] at ha; cases ha
    subst this
    exact hk ⟨none, 0, 0⟩ [] w h1 h2 (SlOk.nil _ _ _ _) (Fr.refl _ _)
  · obtain ⟨s', w', hr, hs, hlen, hf⟩ := clone_cells (P := Tryz.prog) (sz := 1) kU65 kS66 kZ66 kB66 rfl (by omega) (x := x) (xs := xs) (by omega) h4 h2 h (by omega) (by omega) hb2 hw3 38
    exact ⟨s', w', hr, hk s' xs w' h1 h2 hs hf⟩
set_option maxHeartbeats 1000000 in
theorem with1_spec (x : Sl) (n : Int) (g : List Str → List Str) (change : Value) (l : List (List Str)) (hx : RdLD D 1 (RdSlD D 1 RdStr) w x l) (hD : ∀ b, D b → b < w.heap.size) (hn1 : 1 ≤ n) (hn2 : n ≤ 1000) (hl : l.length ≤ BB)
    (hch : ∀ (z : Sl) (le : List Str) (w1 : World) (k1 : Value → World → Prop), RdLD D 1 RdStr w1 z le → Fr Non w w1 → (le ∈ l ∨ le = []) → (∀ (y : Sl) (w2 : World), RdLD (fun b => D b ∨ w1.heap.size ≤ b) 1 RdStr w2 y (g le) → Fr Non w1 w2 → k1 (.slice y.base y.len y.cap) w2) → Cv Tryz.prog change [.slice z.base z.len z.cap] w1 k1)
    (hk : ∀ (y : Sl) (w' : World), RdLD (fun b => D b ∨ w.heap.size ≤ b) 1 (RdSlD (fun b => D b ∨ w.heap.size ≤ b) 1 RdStr) w' y (wthN n.toNat g l) → Fr Non w w' → k (.slice y.base y.len y.cap) w') : Cl Tryz.prog 221 [.slice x.base x.len x.cap, .int .i64 n, change] w k := by
  refine f221_ok ?_
  unfold f221
  refine clone1_spec x l hx hl fun s0 xs0 w4 hS0 one0 ok0 f4 => ⟨s0, rfl, ?_⟩
  unfold BB at hl
  have hl0 := ok0.len
  have hsl0 := hS0.1
  have e1 : IntKind.i64.wrap (n - 1) = n - 1 := w64_id (by omega) (by omega)
  rw [e1]
  refine ⟨fun t out w' => ∃ (j : Nat) (xs : List Value), t = n.toNat - out.len ∧ out.len = l.length + j ∧ j ≤ n.toNat - l.length ∧ SlOk w' 80 1 out xs (fun b => w.heap.size ≤ b ∧ b < w'.heap.size) ∧ Sls (RdLD D 1 RdStr) w xs (l ++ List.replicate j []) ∧ Fr Non w w',
    ⟨n.toNat - s0.len, 0, xs0, rfl, by omega, by omega, ok0, by simpa using hS0, f4⟩, ?_⟩
  rintro t out w11 ⟨j, xs, rfl, hlen, hj, hok, hS, f11⟩
  refine ⟨fun h b12 w13 hb12 hw13 => ?_, fun h => ?_⟩
  · have h := of_decide_eq_true h
    obtain ⟨s', w', hr, hs, hlen', hf⟩ := push_cell (P := Tryz.prog) (sz := 1) kU65 kS66 kZ66 kB66 rfl (by omega) hok (cx := [.slice none 0 0]) rfl (by intro v hv; simp at hv; subst hv; rfl) (by omega) (by omega) hb12 hw13 (fun g hg => hg.2) 1 38
    have z11 := f11.size
    have zf := hf.size
    refine ⟨s', w', hr, n.toNat - s'.len, by omega, j + 1, _, rfl, by omega, by omega, hs.mono (fun b hb => by omega), ?_, upN f11 hf (fun g hg => hg.1)⟩
    rw [List.replicate_succ', ← List.append_assoc]
    exact Sls.snoc hS (z := ⟨none, 0, 0⟩) RdLD.nil
  · have h := of_decide_eq_false h
    have hj : j = n.toNat - l.length := by omega
    have hL : (l ++ List.replicate j []).length = l.length + j := by simp
    have hi : n.toNat - 1 < (l ++ List.replicate j []).length := by omega
    obtain ⟨z, hz, hZ⟩ := hS.2 _ hi
    obtain ⟨a, ha, hc⟩ := hok.at hz
    have e2 : (n - 1).toNat = n.toNat - 1 := by omega
    have hmem : (l ++ List.replicate j [])[n.toNat - 1] ∈ l ∨ (l ++ List.replicate j [])[n.toNat - 1] = [] := by
      rcases List.mem_append.1 (List.getElem_mem hi) with h | h
      · exact .inl h
      · exact .inr (List.eq_of_mem_replicate h)
    have B : (0 : Int) ≤ n - 1 ∧ n - 1 < (out.len : Int) := by omega
    rw [e2, Nat.mul_one]
    refine ⟨a, ha, B, z, hc, hch z _ w11 _ (hZ.kp RdStr.kp fun b hb => f11.blk b (hD b hb) (fun h => h)) f11 hmem fun y w18 hy f18 => ⟨y, rfl, a, ha, B, ?_⟩⟩
    obtain ⟨a', ha', hFa, i1, i2, hok2⟩ := (hok.fr f18 (fun _ _ h => h)).setv (j := n.toNat - 1) (by have := hS.1; omega) (.slice y.base y.len y.cap)
    rw [ha] at ha'; cases ha'
    refine ⟨i1, i2, ?_⟩
    rintro w22 rfl
    have hblk : (a.add (n.toNat - 1)).block = a.block := block_add _ _
    have z11 := f11.size
    have f22 : Fr Non w (w18.setCell (a.add (n.toNat - 1)) (.slice y.base y.len y.cap)) := (f11.trans' f18).set (a := a.add (n.toNat - 1)) (fun h => by rw [hblk] at h; omega) _
    refine hk out _ ?_ f22
    have hS2 : Sls (RdLD (fun b => D b ∨ w.heap.size ≤ b) 1 RdStr) (w18.setCell (a.add (n.toNat - 1)) (.slice y.base y.len y.cap)) (xs.set (n.toNat - 1) (.slice y.base y.len y.cap)) ((l ++ List.replicate j []).set (n.toNat - 1) (g (l ++ List.replicate j [])[n.toNat - 1])) := by
      refine Sls.set hS ?_ ?_
      · refine (hy.kp RdStr.kp fun b hb => heap_ne ?_).imp (fun b hb => ?_) (fun _ _ h => h)
        · rw [hblk]; rintro rfl
          rcases hb with hb | hb
          · have := hD _ hb; omega
          · omega
        · exact hb.imp id (fun h => by omega)
      · intro z m _ hz
        refine (hz.kp RdStr.kp fun b hb => ?_).imp (fun b hb => .inl hb) (fun _ _ h => h)
        exact f22.blk b (hD b hb) (fun h => h)
    have := Sls.rd hok2 hS2 (fun b hb => .inr hb.1)
    rw [show wthN n.toNat g l = (l ++ List.replicate j []).set (n.toNat - 1) (g (l ++ List.replicate j [])[n.toNat - 1]) from by
      unfold wthN; rw [← hj, List.getD_eq_getElem?_getD, List.getElem?_eq_getElem hi]; rfl]
    exact this
theorem strs_cells (x : Sl) (l : Cmp) (hx : RdLD D 1 RdStr w x l) : ∀ j v, (l.map fun s => Value.string (mkS s))[j]? = some v → ∃ a, x.base = some a ∧ w.cell? (a.add j) = some v := by
  intro j v hv
  rw [List.getElem?_map] at hv
  obtain ⟨s, hs, rfl⟩ := Option.map_eq_some_iff.1 hv
  obtain ⟨hj, rfl⟩ := List.getElem?_eq_some_iff.1 hs
  obtain ⟨a, ha, _, hc⟩ := hx.2 j hj
  rw [Nat.mul_one] at hc
  exact ⟨a, ha, hc⟩
theorem strs_one (l : Cmp) : ∀ v ∈ (l.map fun s => Value.string (mkS s)), v.oneCell' = true := by
  intro v hv; obtain ⟨s, _, rfl⟩ := List.mem_map.1 hv; rfl
theorem clone0_spec (x : Sl) (l : Cmp) (hx : RdLD D 1 RdStr w x l) (hl : l.length ≤ BB) (hk : ∀ s w', SlOk w' 9 1 s (l.map fun s => .string (mkS s)) (fun b => w.heap.size ≤ b ∧ b < w'.heap.size) → Fr Non w w' → k (.slice s.base s.len s.cap) w') : Cl Tryz.prog 181 [.slice x.base x.len x.cap] w k := by
  refine f181_ok ?_
  unfold f181
  unfold BB at hl
  have hL := hx.1
  refine ⟨fun h => ?_, fun h b2 w3 hb2 hw3 => ?_⟩
  · have hn : x.base = none := by cases hb : x.base with
      | none => rfl
      | some a => rw [hb] at h; cases h
    have : l = [] := by
      cases hl : l with
      | nil => rfl
      | cons v r =>
        subst hl
        obtain ⟨a, ha, _⟩ := hx.2 0 (by simp)
        rw [hn] at ha; cases ha
    subst this
    exact hk ⟨none, 0, 0⟩ w (SlOk.nil _ _ _ _) (Fr.refl _ _)
  · obtain ⟨s', w', hr, hs, hlen, hf⟩ := clone_cells (P := Tryz.prog) (sz := 1) kU66 kS9 kZ9 kB9 rfl (by omega) (x := x) (xs := l.map fun s => .string (mkS s)) (by simp; omega) (strs_cells x l hx) (strs_one l) h (by omega) (by omega) hb2 hw3 80
    exact ⟨s', w', hr, hk s' w' hs hf⟩
set_option maxHeartbeats 1000000 in
theorem with0_spec (x : Sl) (n : Int) (v : Str) (change : Value) (l : Cmp) (hx : RdLD D 1 RdStr w x l) (hD : ∀ b, D b → b < w.heap.size) (hn1 : 1 ≤ n) (hn2 : n ≤ 1000) (hl : l.length ≤ BB)
    (hch : ∀ (z : Str) (w1 : World) (k1 : Value → World → Prop), Fr Non w w1 → (∀ (w2 : World), Fr Non w1 w2 → k1 (.string (mkS v)) w2) → Cv Tryz.prog change [.string (mkS z)] w1 k1)
    (hk : ∀ (y : Sl) (w' : World), RdLD (fun b => D b ∨ w.heap.size ≤ b) 1 RdStr w' y (wthN n.toNat (fun _ => v) l) → Fr Non w w' → k (.slice y.base y.len y.cap) w') : Cl Tryz.prog 223 [.slice x.base x.len x.cap, .int .i64 n, change] w k := by
  refine f223_ok ?_
  unfold f223
  refine clone0_spec x l hx hl fun s0 w4 ok0 f4 => ⟨s0, rfl, ?_⟩
  unfold BB at hl
  have hl0 := ok0.len
  simp only [List.length_map] at hl0
  have e1 : IntKind.i64.wrap (n - 1) = n - 1 := w64_id (by omega) (by omega)
  rw [e1]
  refine ⟨fun t out w' => ∃ (j : Nat), t = n.toNat - out.len ∧ out.len = l.length + j ∧ j ≤ n.toNat - l.length ∧ SlOk w' 9 1 out ((l ++ List.replicate j []).map fun s => .string (mkS s)) (fun b => w.heap.size ≤ b ∧ b < w'.heap.size) ∧ Fr Non w w',
    ⟨n.toNat - s0.len, 0, rfl, by omega, by omega, by simpa using ok0, f4⟩, ?_⟩
  rintro t out w11 ⟨j, rfl, hlen, hj, hok, f11⟩
  refine ⟨fun h b12 w13 hb12 hw13 => ?_, fun h => ?_⟩
  · have h := of_decide_eq_true h
    obtain ⟨s', w', hr, hs, hlen', hf⟩ := push_cell (P := Tryz.prog) (sz := 1) kU66 kS9 kZ9 kB9 rfl (by omega) hok (cx := [.string (mkS [])]) rfl (by intro v hv; simp at hv; subst hv; rfl) (by omega) (by omega) hb12 hw13 (fun g hg => hg.2) 1 80
    have z11 := f11.size
    have zf := hf.size
    refine ⟨s', w', hr, n.toNat - s'.len, by omega, j + 1, rfl, by omega, by omega, ?_, upN f11 hf (fun g hg => hg.1)⟩
    rw [List.replicate_succ', ← List.append_assoc, List.map_append]
    exact hs.mono (fun b hb => by omega)
  · have h := of_decide_eq_false h
    have hj : j = n.toNat - l.length := by omega
    have hL : (l ++ List.replicate j []).length = l.length + j := by simp
    have hi : n.toNat - 1 < (l ++ List.replicate j []).length := by omega
    have hz : ((l ++ List.replicate j []).map fun s => Value.string (mkS s))[n.toNat - 1]? = some (.string (mkS (l ++ List.replicate j [])[n.toNat - 1])) := by
      rw [List.getElem?_map, List.getElem?_eq_getElem hi]; rfl
    obtain ⟨a, ha, hc⟩ := hok.at hz
    have e2 : (n - 1).toNat = n.toNat - 1 := by omega
    have B : (0 : Int) ≤ n - 1 ∧ n - 1 < (out.len : Int) := by omega
    rw [e2, Nat.mul_one]
    refine ⟨a, ha, B, _, hc, hch _ w11 _ f11 fun w18 f18 => ⟨v, rfl, a, ha, B, ?_⟩⟩
    obtain ⟨a', ha', hFa, i1, i2, hok2⟩ := (hok.fr f18 (fun _ _ h => h)).setv (j := n.toNat - 1) (by rw [List.length_map]; omega) (.string (mkS v))
    rw [ha] at ha'; cases ha'
    refine ⟨i1, i2, ?_⟩
    rintro w22 rfl
    have hblk : (a.add (n.toNat - 1)).block = a.block := block_add _ _
    have z11 := f11.size
    have f22 : Fr Non w (w18.setCell (a.add (n.toNat - 1)) (.string (mkS v))) := (f11.trans' f18).set (a := a.add (n.toNat - 1)) (fun h => by rw [hblk] at h; omega) _
    refine hk out _ ?_ f22
    rw [show wthN n.toNat (fun _ => v) l = (l ++ List.replicate j []).set (n.toNat - 1) v from by unfold wthN; rw [← hj]]
    have em : ((l ++ List.replicate j []).map fun s => Value.string (mkS s)).set (n.toNat - 1) (Value.string (mkS v)) = ((l ++ List.replicate j []).set (n.toNat - 1) v).map (fun s => Value.string (mkS s)) := by rw [List.map_set]
    rw [em] at hok2
    refine ⟨by simp only [List.length_set]; omega, fun i hi => ?_⟩
    have hz : (((l ++ List.replicate j []).set (n.toNat - 1) v).map fun s => Value.string (mkS s))[i]? = some (.string (mkS ((l ++ List.replicate j []).set (n.toNat - 1) v)[i])) := by
      rw [List.getElem?_map, List.getElem?_eq_getElem hi]; rfl
    obtain ⟨a2, ha2, hc2⟩ := hok2.at hz
    rw [ha] at ha2; cases ha2
    exact ⟨a, ha, .inr (by omega), by rw [Nat.mul_one]; exact hc2⟩
end
def setC (p : Pa) (v : Str) (c : Cmp) : Cmp := wthN p.sub.toNat (fun _ => v) c
def setR (p : Pa) (v : Str) (r : Rept) : Rept := wthN p.cmp.toNat (setC p v) r
def setFd (p : Pa) (v : Str) (f : Fldt) : Fldt := wthN p.rep.toNat (setR p v) f
def setFs (p : Pa) (v : Str) (l : List Fldt) : List Fldt := wthN p.fld.toNat (setFd p v) l
section
variable {w : World} {k : Value → World → Prop} {D : Nat → Prop}
set_option maxHeartbeats 1000000 in
theorem set_spec (x : Sl) (p : Pa) (v : Str) (l : List Fldt) (hx : RdLD D 1 (RFD D) w x l) (hD : ∀ b, D b → b < w.heap.size) (hS0 : l.length ≤ BB) (hSF : ∀ f ∈ l, SmF f) (hv : v.length ≤ 281474976710656)
    (h1 : 1 ≤ p.fld ∧ p.fld ≤ 1000) (h2 : 1 ≤ p.rep ∧ p.rep ≤ 1000) (h3 : 1 ≤ p.cmp ∧ p.cmp ≤ 1000) (h4 : 1 ≤ p.sub ∧ p.sub ≤ 1000)
    (hk : ∀ (y : Sl) (w' : World), RdLD (fun b => D b ∨ w.heap.size ≤ b) 1 (RFD (fun b => D b ∨ w.heap.size ≤ b)) w' y (setFs p v l) → Fr Non w w' → k (.slice y.base y.len y.cap) w') :
    Cl Tryz.prog 59 [.slice x.base x.len x.cap, .agg (List.toArray (pc p)), .string (mkS v)] w k := by
  refine f59_ok ?_
  unfold f59
  intro b9 w10 hb9 hw10 b11 w12 hb11 hw12
  have f10 : Fr Non w w10 := hw10 ▸ (Fr.refl Non w).alloc _
  have f12 : Fr Non w w12 := hw12 ▸ f10.alloc _
  have hP10 : Blk w10 b9 28 (pc p) := hb9 ▸ hw10 ▸ Blk.new w (pc p) 28
  have hP : Blk w12 b9 28 (pc p) := hw12 ▸ hP10.alloc _
  have hV : Blk w12 b11 9 [.string (mkS v)] := hb11 ▸ hw12 ▸ Blk.new w10 _ 9
  have hpc : ∀ {w' : World} {i : Nat} {u : Value}, Fr Non w12 w' → (pc p)[i]? = some u → w'.cell? ((⟨b9, 0, none⟩ : Addr).add i) = some u := fun f h => by rw [add_mk, Nat.zero_add]; exact (hP.fr f (fun h => h)).cell h
  have z12 := f12.size
  refine ⟨p.fld, hpc (Fr.refl _ _) rfl, ?_⟩
  have hD12 : ∀ b, D b → b < w12.heap.size := fun b hb => by have := hD b hb; omega
  refine with3_spec x p.fld (setFd p v) _ l (hx.kp RFD.kp fun b hb => f12.blk b (hD b hb) (fun h => h)) hD12 h1.1 h1.2 hS0 ?_ fun y w14 hy f14 => ⟨y, rfl, hk y w14 ?_ (f12.trans' f14)⟩
  · intro z f w1 k1 hz g1 hm hk1
    have hSf : SmF f := by rcases hm with hm | rfl; exact hSF f hm; exact SmF0
    refine Cv.of (caps := [.pointer (some ⟨b9, 0, none⟩), .pointer (some ⟨b11, 0, none⟩)]) (.mk (by kernel_rfl)) ?_
    refine f218_ok ?_
    unfold f218
    refine ⟨p.rep, hpc g1 rfl, ?_⟩
    refine with2_spec z p.rep (setR p v) _ f hz (fun b hb => by have := hD12 b hb; have := g1.size; omega) h2.1 h2.2 hSf.1 ?_ fun y w2 hy f2 => ⟨y, rfl, hk1 y w2 hy f2⟩
    intro z2 r w2 k2 hz2 g2 hm2 hk2
    have hSr : SmR r := by rcases hm2 with hm | rfl; exact hSf.2 r hm; exact SmR0
    refine Cv.of (caps := [.pointer (some ⟨b9, 0, none⟩), .pointer (some ⟨b11, 0, none⟩)]) (.mk (by kernel_rfl)) ?_
    refine f220_ok ?_
    unfold f220
    refine ⟨p.cmp, hpc (g1.trans' g2) rfl, ?_⟩
    refine with1_spec z2 p.cmp (setC p v) _ r hz2 (fun b hb => by have := hD12 b hb; have := g1.size; have := g2.size; omega) h3.1 h3.2 hSr.1 ?_ fun y w3 hy f3 => ⟨y, rfl, hk2 y w3 hy f3⟩
    intro z3 c w3 k3 hz3 g3 hm3 hk3
    have hSc : SmC c := by rcases hm3 with hm | rfl; exact hSr.2 c hm; exact SmC0
    refine Cv.of (caps := [.pointer (some ⟨b9, 0, none⟩), .pointer (some ⟨b11, 0, none⟩)]) (.mk (by kernel_rfl)) ?_
    refine f222_ok ?_
    unfold f222
    refine ⟨p.sub, hpc ((g1.trans' g2).trans' g3) rfl, ?_⟩
    refine with0_spec z3 p.sub v _ c hz3 (fun b hb => by have := hD12 b hb; have := g1.size; have := g2.size; have := g3.size; omega) h4.1 h4.2 hSc.1 ?_ fun y w4 hy f4 => ⟨y, rfl, hk3 y w4 hy f4⟩
    intro z4 w4 k4 g4 hk4
    refine Cv.of (caps := [.pointer (some ⟨b11, 0, none⟩)]) (.mk (by kernel_rfl)) ?_
    refine f224_ok ?_
    unfold f224
    have gg := ((g1.trans' g2).trans' g3).trans' g4
    exact ⟨v, (hV.fr gg (fun h => h)).cell rfl, clone_spec v hv fun w5 f5 => ⟨v, rfl, hk4 w5 f5⟩⟩
  · exact hy.imp (fun b hb => hb.imp id (fun h => by omega)) fun _ _ h => RFD.mono h (fun b hb => hb.imp id (fun h => by omega))
end
end Go.Proofs.YthpeengmcjpknaaGreatDoor
