/- TokenEmpty: what is empty at ends says nothing in a text. -/
import Derived.Test.YtoaoofobidhfjaaGreatDoorEH
import Derived.Test.YtoaoofobidhfjaaGreatDoorFH
set_option linter.unusedSimpArgs false
set_option linter.unusedVariables false
namespace Go.Proofs.YtoaoofobidhfjaaGreatDoor
open Go.V Go.RowKit
theorem own_empty {α : Type} {T : TypeId} {sz : Nat} {E : Nat → EP α} {w : World} {b : Nat} (hB : Blk w b T []) : Own T sz E w ⟨some ⟨b, 0, none⟩, 0, 0⟩ ([] : List α) (fun c => c = b) :=
  ⟨[], fun c => c = b, fun _ _ => False, .inr ⟨b, rfl, by simp, Nat.le_refl _, 0, [], rfl, hB, by simp, by simp⟩, rfl, by rintro c rfl; exact ⟨hB.lt, rfl⟩, fun i hi => absurd hi (by simp), fun i j hi => absurd hi (by simp), fun i hi => absurd hi (by simp), fun v hv => absurd hv (by simp)⟩
theorem uE3_0 : ∀ (a1 a2 a3 : Option Addr) (b1 b2 b3 c1 c2 c3 : Nat) (u : World), (Instr.index 49 (.agg (List.toArray [.slice a1 b1 c1, .slice a2 b2 c2, .slice a3 b3 c3])) (.int .i64 0)).run Tryz.prog u = .ok (.slice a1 b1 c1) u := by intros; kernel_rfl
theorem uE3_1 : ∀ (a1 a2 a3 : Option Addr) (b1 b2 b3 c1 c2 c3 : Nat) (u : World), (Instr.index 49 (.agg (List.toArray [.slice a1 b1 c1, .slice a2 b2 c2, .slice a3 b3 c3])) (.int .i64 1)).run Tryz.prog u = .ok (.slice a2 b2 c2) u := by intros; kernel_rfl
theorem uE3_2 : ∀ (a1 a2 a3 : Option Addr) (b1 b2 b3 c1 c2 c3 : Nat) (u : World), (Instr.index 49 (.agg (List.toArray [.slice a1 b1 c1, .slice a2 b2 c2, .slice a3 b3 c3])) (.int .i64 2)).run Tryz.prog u = .ok (.slice a3 b3 c3) u := by intros; kernel_rfl
def Emp (f : Fldt) : Prop := canF f = [] ∧ fitsF f = true ∧ bkF f ≤ 10
theorem emp_pick {w0 w : World} {c0 bA c2 c1 bB : Nat} (h0 : Blk w c0 36 []) (hA : Blk w bA 37 [.slice (some ⟨c0, 0, none⟩) 0 0]) (h2 : Blk w c2 9 [.string (mkS [])]) (h1 : Blk w c1 36 [.slice (some ⟨c2, 0, none⟩) 1 1]) (hB : Blk w bB 37 [.slice (some ⟨c1, 0, none⟩) 1 1])
    (hs : w0.heap.size ≤ c0 ∧ w0.heap.size ≤ bA ∧ w0.heap.size ≤ c2 ∧ w0.heap.size ≤ c1 ∧ w0.heap.size ≤ bB) (hd : c0 ≠ bA ∧ c2 ≠ c1 ∧ c2 ≠ bB ∧ c1 ≠ bB) (j : Nat) :
    ∃ (v : Sl) (f : Fldt), Pu Tryz.prog (Instr.index 49 (.agg (List.toArray [.slice none 0 0, .slice (some ⟨bA, 0, none⟩) 1 1, .slice (some ⟨bB, 0, none⟩) 1 1])) (.int .i64 ((j : Int).tmod (3 : Int)))) (.slice v.base v.len v.cap) ∧
      OwF w v f (fun b => w0.heap.size ≤ b ∧ b < w.heap.size) ∧ Emp f := by
  have e : (j : Int).tmod 3 = 0 ∨ (j : Int).tmod 3 = 1 ∨ (j : Int).tmod 3 = 2 := by
    rw [Int.tmod_eq_emod_of_nonneg (by omega)]; omega
  have l0 := h0.lt
  have lA := hA.lt
  have l2 := h2.lt
  have l1 := h1.lt
  have lB := hB.lt
  rcases e with e | e | e <;> rw [e]
  · exact ⟨⟨none, 0, 0⟩, [], fun u => uE3_0 _ _ _ _ _ _ _ _ _ u, Own.nil _ _ _ _ _, rfl, rfl, by decide⟩
  · have o0 : OwR w ⟨some ⟨c0, 0, none⟩, 0, 0⟩ [] (fun c => c = c0) := own_empty h0
    have oA : OwF w ⟨some ⟨bA, 0, none⟩, 1, 1⟩ [[]] (fun c => c = bA ∨ c = c0) := Own.one hA rfl (by intro v hv; simp at hv; subst hv; rfl) (show ER w _ [] _ from ⟨_, rfl, o0⟩) (fun c hc => by subst hc; exact ⟨l0, hd.1⟩)
    exact ⟨⟨some ⟨bA, 0, none⟩, 1, 1⟩, [[]], fun u => uE3_1 _ _ _ _ _ _ _ _ _ u, oA.mono fun c hc => by rcases hc with rfl | rfl; exact ⟨hs.2.1, lA⟩; exact ⟨hs.1, l0⟩, rfl, rfl, by decide⟩
  · have o2 : OwC w ⟨some ⟨c2, 0, none⟩, 1, 1⟩ [[]] (fun c => c = c2 ∨ False) := Own.one h2 rfl (by intro v hv; simp at hv; subst hv; rfl) (show EStr w _ [] (fun _ => False) from rfl) (fun c hc => hc.elim)
    have o1 : OwR w ⟨some ⟨c1, 0, none⟩, 1, 1⟩ [[[]]] (fun c => c = c1 ∨ (c = c2 ∨ False)) := Own.one h1 rfl (by intro v hv; simp at hv; subst hv; rfl) (show EC w _ [[]] _ from ⟨_, rfl, o2⟩) (fun c hc => by rcases hc with rfl | h; exact ⟨l2, hd.2.1⟩; exact h.elim)
    have oB : OwF w ⟨some ⟨bB, 0, none⟩, 1, 1⟩ [[[[]]]] (fun c => c = bB ∨ (c = c1 ∨ (c = c2 ∨ False))) := Own.one hB rfl (by intro v hv; simp at hv; subst hv; rfl) (show ER w _ [[[]]] _ from ⟨_, rfl, o1⟩) (fun c hc => by rcases hc with rfl | rfl | h; exact ⟨l1, hd.2.2.2⟩; exact ⟨l2, hd.2.2.1⟩; exact h.elim)
    exact ⟨⟨some ⟨bB, 0, none⟩, 1, 1⟩, [[[[]]]], fun u => uE3_2 _ _ _ _ _ _ _ _ _ u, oB.mono fun c hc => by rcases hc with rfl | rfl | rfl | h; exact ⟨hs.2.2.2.2, lB⟩; exact ⟨hs.2.2.2.1, l1⟩; exact ⟨hs.2.2.1, l2⟩; exact h.elim, rfl, rfl, by decide⟩
theorem Emp.sum : ∀ {es : List Fldt}, (∀ f ∈ es, Emp f) → (es.map bkF).sum ≤ 10 * es.length
  | [], _ => by simp
  | f :: es, h => by
    have h1 := Emp.sum (es := es) (fun x hx => h x (by simp [hx]))
    have h2 := (h f (by simp)).2.2
    simp only [List.map_cons, List.sum_cons, List.length_cons]; omega
section
variable {w : World} {k : Value → World → Prop}
set_option maxHeartbeats 8000000 in
theorem tempty_spec (m : Mh) (n : Int) (l : List Seg) (hR : RM w m.s l) (hb : bkM l ≤ 1048576) (hd : Dg m) (hG : GMax w) (hk : ∀ w', Fr Non w w' → k (.bool true) w') : Cl Tryz.prog 8 [.agg (List.toArray (mc m)), .int .i64 n] w k := by
  obtain ⟨d, s, rfl⟩ : ∃ d s, m = mD d s := ⟨dmM m, m.s, (mD_dm hd).symm⟩
  refine f8_ok ?_
  unfold f8
  have hbB : bkM l ≤ BB := by unfold BB; omega
  have hS := SmM_of hbB
  intro b8 w9 hb8 hw9
  have f9 : Fr Non w w9 := hw9 ▸ (Fr.refl Non w).alloc _
  have hM : Blk w9 b8 26 (mc (mD d s)) := hb8 ▸ hw9 ▸ Blk.new w _ _
  have hR9 := hR.fr f9
  have hG9 := hG.fr f9 (fun h => h)
  refine ⟨fun b w' => Fr Non w9 w' ∧ (b = false → validM (mD d s) l = true ∧ 0 ≤ n ∧ n ≤ 5), ?_, _, _, _, _, _, s, msgAts hM, light_any (mD d s) l hR9 hS fun b w19 f19 => ⟨b, rfl, fun _ => ⟨f19, fun h => (by cases h)⟩, fun _ => ⟨_, _, _, _, _, s, msgAts (hM.fr f19 (fun h => h)), tvalid_spec (mD d s) l (hR9.fr f19) hS hd fun w28 f28 => ⟨_, rfl, fun _ => ⟨f19.trans' f28, fun h => (by cases h)⟩, fun hv => ⟨fun _ => ⟨f19.trans' f28, fun h => (by cases h)⟩, fun hn => ⟨f19.trans' f28, fun h => ⟨by simpa using hv, by have := of_decide_eq_false hn; omega, by have := of_decide_eq_false h; omega⟩⟩⟩⟩⟩⟩⟩
  rintro b12 w12 ⟨f12, hq⟩
  refine ⟨fun _ => alive8_spec (hG9.fr f12 (fun h => h)) fun w22 f22 => ⟨_, rfl, hk _ ((f9.trans' f12).trans' f22)⟩, fun hb0 => ?_⟩
  obtain ⟨hv, hn0, hn5⟩ := hq hb0
  obtain ⟨N, rfl⟩ : ∃ N : Nat, n = N := ⟨n.toNat, by omega⟩
  have hok := okM_of hd hv
  rw [dm_mD] at hok
  obtain ⟨cs, g, rfl⟩ := hok.last
  refine ⟨_, _, _, _, _, s, msgAts (hM.fr f12 (fun h => h)), tcopy_spec (mD d s) (cs ++ [g]) (hR9.fr f12) hS fun z w40 hz f40 => ⟨_, _, _, _, _, z, rfl, ?_⟩⟩
  intro b48 w49 hb48 hw49
  obtain ⟨m1, n1⟩ := msgVar (mD d z) hb48 hw49
  refine ⟨m1, fun w50 hw50 => ?_⟩
  obtain ⟨hX, f50⟩ := n1 w50 hw50
  have hz50 := hz.fr (fun _ => EG.st) f50 (fun _ _ h => h)
  have hnz := Own.len hz
  rw [List.length_append, List.length_singleton] at hnz
  have hcn : cs.length + 1 ≤ 200 := by have := hok.len; simpa using this
  have k50 := f12.trans' (f40.trans' f50)
  have hcz : w50.cell? ((⟨b48, 0, none⟩ : Addr).add 5) = some (.slice z.base z.len z.cap) := by rw [add_mk]; exact hX.cell rfl
  refine ⟨z, hcz, fun h => ?_, fun _ => ?_⟩
  · exfalso
    have : (z.len : Int) = 0 := by simpa using h
    omega
  have ei : IntKind.i64.wrap ((z.len : Int) - 1) = (cs.length : Int) := by rw [w64_id (by omega) (by omega)]; omega
  obtain ⟨a, zf, o, ha, hF, hlt, hno, hzc, hzo, _, _⟩ := OwM.flds hz50 (i := cs.length) (by simp)
  have eg : ((cs ++ [g])[cs.length]'(by simp)) = g := by simp
  rw [eg] at hzo
  have hzl := Own.len hzo
  have hgf : g.flds.length ≤ 100 := by
    have := (hok.nms g (by simp)).2
    unfold fitsG at this
    simp only [Bool.and_eq_true, decide_eq_true_eq] at this
    exact this.1
  refine ⟨z, hcz, z, hcz, a, ha, ⟨by omega, by omega⟩, zf, by rw [ei, Int.toNat_natCast]; exact hzc, ?_⟩
  rw [ei, Int.toNat_natCast]
  have ew : IntKind.i64.wrap ((zf.len : Int) + (N : Int)) = ((g.flds.length + N : Nat) : Int) := by rw [hzl, w64_id (by omega) (by omega)]; push_cast; rfl
  rw [ew]
  refine ⟨fun _ => alive8_spec (hG9.fr k50 (fun h => h)) fun w56 f56 => ⟨_, rfl, hk _ (f9.trans' (k50.trans' f56))⟩, fun hfit => ?_⟩
  have hfit := of_decide_eq_false hfit
  obtain ⟨F0, hF0⟩ : ∃ F0 : Nat → Prop, F0 = fun b => w12.heap.size ≤ b ∧ b < w40.heap.size := ⟨_, rfl⟩
  have lb48 : b48 = w40.heap.size := hb48
  have s50 := f50.size
  have s40 := f40.size
  refine ⟨fun q i w' => ∃ (j : Nat) (es : List Fldt), i = j ∧ j ≤ N ∧ q = N - j ∧ es.length = j ∧ (∀ f ∈ es, Emp f) ∧ OwM w' z (cs ++ [(⟨g.name, g.flds ++ es⟩ : Seg)]) (fun b => F0 b ∨ w50.heap.size ≤ b) ∧ Fr F0 w50 w', ⟨N, 0, [], rfl, by omega, rfl, rfl, fun f hf => absurd hf (by simp), ?_, Fr.refl _ _⟩, ?_⟩
  · rw [List.append_nil]
    exact hz50.mono fun b hb => .inl (by rw [hF0]; exact hb)
  rintro q i w63 ⟨j, es, rfl, hj, rfl, hel, hem, hO, hFr⟩
  have s63 := hFr.size
  have hXa : ∀ {u}, Fr F0 w50 u → Blk u b48 26 (mc (mD d z)) := fun h => hX.fr h (fun hh => by rw [hF0] at hh; omega)
  have hfr9 : ∀ {u}, Fr F0 w50 u → Fr Non w9 u := fun {u} h => by
    refine f12.trans' ((f40.trans' f50).trans h fun b hb hf => ?_)
    rw [hF0] at hf; omega
  refine ⟨fun h => ?_, fun h => ?_⟩
  · have hjn : j < N := by have := of_decide_eq_true h; omega
    refine ⟨fun w' => ∃ (es' : List Fldt), es'.length = j + 1 ∧ (∀ f ∈ es', Emp f) ∧ OwM w' z (cs ++ [(⟨g.name, g.flds ++ es'⟩ : Seg)]) (fun b => F0 b ∨ w50.heap.size ≤ b) ∧ Fr F0 w50 w', ?_, ?_⟩
    · rintro w65 ⟨es', q1, q2, q3, q4⟩
      exact ⟨N - (j + 1), by omega, j + 1, es', by rw [w64_id (by omega) (by omega)]; push_cast; rfl, by omega, rfl, q1, q2, q3, q4⟩
    intro u0 hu0
    have g0 : Fr Non w63 u0 := hu0 ▸ (Fr.refl Non w63).drew
    have z0 : u0.heap.size = w63.heap.size := by rw [hu0]; rfl
    have hO0 := hO.fr (fun _ => EG.st) g0 (fun _ _ h => h)
    obtain ⟨a', zg, o, ha', hF', hlt', hno', hzc', hzo', hof, hset⟩ := OwM.flds hO0 (i := cs.length) (by simp)
    obtain rfl : a' = a := by rw [ha] at ha'; exact (Option.some.inj ha').symm
    have eg' : ((cs ++ [(⟨g.name, g.flds ++ es⟩ : Seg)])[cs.length]'(by simp)) = ⟨g.name, g.flds ++ es⟩ := by simp
    rw [eg'] at hzo' hset
    refine ⟨zg, hzc', by omega, ?_⟩
    have leaf : ∀ (w77 : World) (c0 bA c2 c1 bB : Nat), Blk w77 c0 36 [] → Blk w77 bA 37 [.slice (some ⟨c0, 0, none⟩) 0 0] → Blk w77 c2 9 [.string (mkS [])] → Blk w77 c1 36 [.slice (some ⟨c2, 0, none⟩) 1 1] → Blk w77 bB 37 [.slice (some ⟨c1, 0, none⟩) 1 1] →
        Fr Non u0 w77 → (u0.heap.size ≤ c0 ∧ u0.heap.size ≤ bA ∧ u0.heap.size ≤ c2 ∧ u0.heap.size ≤ c1 ∧ u0.heap.size ≤ bB) → (c0 ≠ bA ∧ c2 ≠ c1 ∧ c2 ≠ bB ∧ c1 ≠ bB) →
        ∃ (x78 : Sl), Pu Tryz.prog (Instr.index 49 (.agg (List.toArray [.slice none 0 0, .slice (some ⟨bA, 0, none⟩) 1 1, .slice (some ⟨bB, 0, none⟩) 1 1])) (.int .i64 ((j : Int).tmod (3 : Int)))) (.slice x78.base x78.len x78.cap) ∧ ∀ b79 w80, b79 = w77.heap.size → w80 = w77.alloc (.cells (List.toArray [.slice x78.base x78.len x78.cap]) 38) → ∃ (s81 : Sl) (w82 : World), (Builtin.append_ #[33, 33] 33 #[.slice zg.base zg.len zg.cap, .slice (some ⟨b79, 0, none⟩) 1 1]).run Tryz.prog w80 = .ok (.slice s81.base s81.len s81.cap) w82 ∧ (w82.cell? ((a'.add (cs.length * 2)).add 1)).isSome = true ∧ w82.frozen? ((a'.add (cs.length * 2)).add 1) = false ∧ ∀ w83, w83 = w82.setCell ((a'.add (cs.length * 2)).add 1) (.slice s81.base s81.len s81.cap) →
          ∃ (es' : List Fldt), es'.length = j + 1 ∧ (∀ f ∈ es', Emp f) ∧ OwM w83 z (cs ++ [(⟨g.name, g.flds ++ es'⟩ : Seg)]) (fun b => F0 b ∨ w50.heap.size ≤ b) ∧ Fr F0 w50 w83 := by
      intro w77 c0 bA c2 c1 bB h0 hA h2 h1 hB f77 hs hdis
      obtain ⟨v, f, hp, hv, he⟩ := emp_pick (w0 := u0) h0 hA h2 h1 hB hs hdis j
      refine ⟨v, hp, fun b79 w80 hb79 hw80 => ?_⟩
      have f80 : Fr Non w77 w80 := hw80 ▸ (Fr.refl Non w77).alloc _
      have hN : Blk w80 b79 38 [.slice v.base v.len v.cap] := hb79 ▸ hw80 ▸ Blk.new w77 _ _
      have hv80 := hv.fr (fun _ => ER.st) f80 (fun _ _ h => h)
      obtain ⟨s', w82, r1, r2, r3⟩ := flds_push hzo' (fun b hb => (hof b hb).2) (f77.trans' f80) hv80 (fun b hb => ⟨hb.1, by have := f80.size; omega⟩) hN (by rw [List.length_append]; omega)
      have f82 : Fr o u0 w82 := ((f77.trans' f80).mono (fun _ _ h => h.elim)).trans' r3
      obtain ⟨k1, k2, k3, k4⟩ := hset w82 _ s' _ f82 r2 (fun b hb => hb)
      refine ⟨s', w82, r1, k1, k2, fun w83 hw83 => ?_⟩
      rw [← hw83] at k3 k4
      have es' : (cs ++ [(⟨g.name, g.flds ++ es⟩ : Seg)]).set cs.length ⟨g.name, g.flds ++ es ++ [f]⟩ = cs ++ [(⟨g.name, g.flds ++ (es ++ [f])⟩ : Seg)] := by simp
      rw [es'] at k3
      refine ⟨es ++ [f], by rw [List.length_append, hel]; rfl, fun x hx => ?_, k3.mono fun b hb => ?_, ?_⟩
      · rcases List.mem_append.1 hx with hx | hx
        · exact hem x hx
        · simp only [List.mem_singleton] at hx; rw [hx]; exact he
      · rcases hb with hb | hb
        · exact hb
        · exact .inr (by omega)
      · exact (hFr.trans' (g0.mono fun _ _ h => h.elim)).trans k4 fun b hb hf => by
          rcases hf with hf | hf
          · exact hf
          · omega
    refine ⟨?_, ?_⟩
    · intro c0 u1 d1 e1
      refine ⟨?_, ?_⟩
      · intro bA u2 d2 e2
        intro c2 u3 d3 e3
        intro c1 u4 d4 e4
        intro bB u5 d5 e5
        have g1 : Fr Non u0 u1 := e1 ▸ (Fr.refl Non u0).alloc _
        have z1 : u1.heap.size = u0.heap.size + 1 := by rw [e1]; simp
        have g2 : Fr Non u1 u2 := e2 ▸ (Fr.refl Non u1).alloc _
        have z2 : u2.heap.size = u1.heap.size + 1 := by rw [e2]; simp
        have g3 : Fr Non u2 u3 := e3 ▸ (Fr.refl Non u2).alloc _
        have z3 : u3.heap.size = u2.heap.size + 1 := by rw [e3]; simp
        have g4 : Fr Non u3 u4 := e4 ▸ (Fr.refl Non u3).alloc _
        have z4 : u4.heap.size = u3.heap.size + 1 := by rw [e4]; simp
        have g5 : Fr Non u4 u5 := e5 ▸ (Fr.refl Non u4).alloc _
        have z5 : u5.heap.size = u4.heap.size + 1 := by rw [e5]; simp
        have h_c0 : Blk u5 c0 36 [] := (((((d1 ▸ e1 ▸ Blk.new u0 _ _ : Blk u1 c0 36 []).fr g2 (fun h => h)).fr g3 (fun h => h)).fr g4 (fun h => h)).fr g5 (fun h => h))
        have h_bA : Blk u5 bA 37 [.slice (some ⟨c0, 0, none⟩) 0 0] := ((((d2 ▸ e2 ▸ Blk.new u1 _ _ : Blk u2 bA 37 [.slice (some ⟨c0, 0, none⟩) 0 0]).fr g3 (fun h => h)).fr g4 (fun h => h)).fr g5 (fun h => h))
        have h_c2 : Blk u5 c2 9 [.string (mkS [])] := (((d3 ▸ e3 ▸ Blk.new u2 _ _ : Blk u3 c2 9 [.string (mkS [])]).fr g4 (fun h => h)).fr g5 (fun h => h))
        have h_c1 : Blk u5 c1 36 [.slice (some ⟨c2, 0, none⟩) 1 1] := ((d4 ▸ e4 ▸ Blk.new u3 _ _ : Blk u4 c1 36 [.slice (some ⟨c2, 0, none⟩) 1 1]).fr g5 (fun h => h))
        have h_bB : Blk u5 bB 37 [.slice (some ⟨c1, 0, none⟩) 1 1] := (d5 ▸ e5 ▸ Blk.new u4 _ _ : Blk u5 bB 37 [.slice (some ⟨c1, 0, none⟩) 1 1])
        exact leaf u5 c0 bA c2 c1 bB h_c0 h_bA h_c2 h_c1 h_bB ((((g1.trans' g2).trans' g3).trans' g4).trans' g5) ⟨by omega, by omega, by omega, by omega, by omega⟩ ⟨by omega, by omega, by omega, by omega⟩
      · intro c2 u2 d2 e2
        refine ⟨?_, ?_⟩
        · intro bA u3 d3 e3
          intro c1 u4 d4 e4
          intro bB u5 d5 e5
          have g1 : Fr Non u0 u1 := e1 ▸ (Fr.refl Non u0).alloc _
          have z1 : u1.heap.size = u0.heap.size + 1 := by rw [e1]; simp
          have g2 : Fr Non u1 u2 := e2 ▸ (Fr.refl Non u1).alloc _
          have z2 : u2.heap.size = u1.heap.size + 1 := by rw [e2]; simp
          have g3 : Fr Non u2 u3 := e3 ▸ (Fr.refl Non u2).alloc _
          have z3 : u3.heap.size = u2.heap.size + 1 := by rw [e3]; simp
          have g4 : Fr Non u3 u4 := e4 ▸ (Fr.refl Non u3).alloc _
          have z4 : u4.heap.size = u3.heap.size + 1 := by rw [e4]; simp
          have g5 : Fr Non u4 u5 := e5 ▸ (Fr.refl Non u4).alloc _
          have z5 : u5.heap.size = u4.heap.size + 1 := by rw [e5]; simp
          have h_c0 : Blk u5 c0 36 [] := (((((d1 ▸ e1 ▸ Blk.new u0 _ _ : Blk u1 c0 36 []).fr g2 (fun h => h)).fr g3 (fun h => h)).fr g4 (fun h => h)).fr g5 (fun h => h))
          have h_c2 : Blk u5 c2 9 [.string (mkS [])] := ((((d2 ▸ e2 ▸ Blk.new u1 _ _ : Blk u2 c2 9 [.string (mkS [])]).fr g3 (fun h => h)).fr g4 (fun h => h)).fr g5 (fun h => h))
          have h_bA : Blk u5 bA 37 [.slice (some ⟨c0, 0, none⟩) 0 0] := (((d3 ▸ e3 ▸ Blk.new u2 _ _ : Blk u3 bA 37 [.slice (some ⟨c0, 0, none⟩) 0 0]).fr g4 (fun h => h)).fr g5 (fun h => h))
          have h_c1 : Blk u5 c1 36 [.slice (some ⟨c2, 0, none⟩) 1 1] := ((d4 ▸ e4 ▸ Blk.new u3 _ _ : Blk u4 c1 36 [.slice (some ⟨c2, 0, none⟩) 1 1]).fr g5 (fun h => h))
          have h_bB : Blk u5 bB 37 [.slice (some ⟨c1, 0, none⟩) 1 1] := (d5 ▸ e5 ▸ Blk.new u4 _ _ : Blk u5 bB 37 [.slice (some ⟨c1, 0, none⟩) 1 1])
          exact leaf u5 c0 bA c2 c1 bB h_c0 h_bA h_c2 h_c1 h_bB ((((g1.trans' g2).trans' g3).trans' g4).trans' g5) ⟨by omega, by omega, by omega, by omega, by omega⟩ ⟨by omega, by omega, by omega, by omega⟩
        · intro c1 u3 d3 e3
          refine ⟨?_, ?_⟩
          · intro bA u4 d4 e4
            intro bB u5 d5 e5
            have g1 : Fr Non u0 u1 := e1 ▸ (Fr.refl Non u0).alloc _
            have z1 : u1.heap.size = u0.heap.size + 1 := by rw [e1]; simp
            have g2 : Fr Non u1 u2 := e2 ▸ (Fr.refl Non u1).alloc _
            have z2 : u2.heap.size = u1.heap.size + 1 := by rw [e2]; simp
            have g3 : Fr Non u2 u3 := e3 ▸ (Fr.refl Non u2).alloc _
            have z3 : u3.heap.size = u2.heap.size + 1 := by rw [e3]; simp
            have g4 : Fr Non u3 u4 := e4 ▸ (Fr.refl Non u3).alloc _
            have z4 : u4.heap.size = u3.heap.size + 1 := by rw [e4]; simp
            have g5 : Fr Non u4 u5 := e5 ▸ (Fr.refl Non u4).alloc _
            have z5 : u5.heap.size = u4.heap.size + 1 := by rw [e5]; simp
            have h_c0 : Blk u5 c0 36 [] := (((((d1 ▸ e1 ▸ Blk.new u0 _ _ : Blk u1 c0 36 []).fr g2 (fun h => h)).fr g3 (fun h => h)).fr g4 (fun h => h)).fr g5 (fun h => h))
            have h_c2 : Blk u5 c2 9 [.string (mkS [])] := ((((d2 ▸ e2 ▸ Blk.new u1 _ _ : Blk u2 c2 9 [.string (mkS [])]).fr g3 (fun h => h)).fr g4 (fun h => h)).fr g5 (fun h => h))
            have h_c1 : Blk u5 c1 36 [.slice (some ⟨c2, 0, none⟩) 1 1] := (((d3 ▸ e3 ▸ Blk.new u2 _ _ : Blk u3 c1 36 [.slice (some ⟨c2, 0, none⟩) 1 1]).fr g4 (fun h => h)).fr g5 (fun h => h))
            have h_bA : Blk u5 bA 37 [.slice (some ⟨c0, 0, none⟩) 0 0] := ((d4 ▸ e4 ▸ Blk.new u3 _ _ : Blk u4 bA 37 [.slice (some ⟨c0, 0, none⟩) 0 0]).fr g5 (fun h => h))
            have h_bB : Blk u5 bB 37 [.slice (some ⟨c1, 0, none⟩) 1 1] := (d5 ▸ e5 ▸ Blk.new u4 _ _ : Blk u5 bB 37 [.slice (some ⟨c1, 0, none⟩) 1 1])
            exact leaf u5 c0 bA c2 c1 bB h_c0 h_bA h_c2 h_c1 h_bB ((((g1.trans' g2).trans' g3).trans' g4).trans' g5) ⟨by omega, by omega, by omega, by omega, by omega⟩ ⟨by omega, by omega, by omega, by omega⟩
          · intro bB u4 d4 e4
            intro bA u5 d5 e5
            have g1 : Fr Non u0 u1 := e1 ▸ (Fr.refl Non u0).alloc _
            have z1 : u1.heap.size = u0.heap.size + 1 := by rw [e1]; simp
            have g2 : Fr Non u1 u2 := e2 ▸ (Fr.refl Non u1).alloc _
            have z2 : u2.heap.size = u1.heap.size + 1 := by rw [e2]; simp
            have g3 : Fr Non u2 u3 := e3 ▸ (Fr.refl Non u2).alloc _
            have z3 : u3.heap.size = u2.heap.size + 1 := by rw [e3]; simp
            have g4 : Fr Non u3 u4 := e4 ▸ (Fr.refl Non u3).alloc _
            have z4 : u4.heap.size = u3.heap.size + 1 := by rw [e4]; simp
            have g5 : Fr Non u4 u5 := e5 ▸ (Fr.refl Non u4).alloc _
            have z5 : u5.heap.size = u4.heap.size + 1 := by rw [e5]; simp
            have h_c0 : Blk u5 c0 36 [] := (((((d1 ▸ e1 ▸ Blk.new u0 _ _ : Blk u1 c0 36 []).fr g2 (fun h => h)).fr g3 (fun h => h)).fr g4 (fun h => h)).fr g5 (fun h => h))
            have h_c2 : Blk u5 c2 9 [.string (mkS [])] := ((((d2 ▸ e2 ▸ Blk.new u1 _ _ : Blk u2 c2 9 [.string (mkS [])]).fr g3 (fun h => h)).fr g4 (fun h => h)).fr g5 (fun h => h))
            have h_c1 : Blk u5 c1 36 [.slice (some ⟨c2, 0, none⟩) 1 1] := (((d3 ▸ e3 ▸ Blk.new u2 _ _ : Blk u3 c1 36 [.slice (some ⟨c2, 0, none⟩) 1 1]).fr g4 (fun h => h)).fr g5 (fun h => h))
            have h_bB : Blk u5 bB 37 [.slice (some ⟨c1, 0, none⟩) 1 1] := ((d4 ▸ e4 ▸ Blk.new u3 _ _ : Blk u4 bB 37 [.slice (some ⟨c1, 0, none⟩) 1 1]).fr g5 (fun h => h))
            have h_bA : Blk u5 bA 37 [.slice (some ⟨c0, 0, none⟩) 0 0] := (d5 ▸ e5 ▸ Blk.new u4 _ _ : Blk u5 bA 37 [.slice (some ⟨c0, 0, none⟩) 0 0])
            exact leaf u5 c0 bA c2 c1 bB h_c0 h_bA h_c2 h_c1 h_bB ((((g1.trans' g2).trans' g3).trans' g4).trans' g5) ⟨by omega, by omega, by omega, by omega, by omega⟩ ⟨by omega, by omega, by omega, by omega⟩
    · intro c2 u1 d1 e1
      refine ⟨?_, ?_⟩
      · intro c0 u2 d2 e2
        refine ⟨?_, ?_⟩
        · intro bA u3 d3 e3
          intro c1 u4 d4 e4
          intro bB u5 d5 e5
          have g1 : Fr Non u0 u1 := e1 ▸ (Fr.refl Non u0).alloc _
          have z1 : u1.heap.size = u0.heap.size + 1 := by rw [e1]; simp
          have g2 : Fr Non u1 u2 := e2 ▸ (Fr.refl Non u1).alloc _
          have z2 : u2.heap.size = u1.heap.size + 1 := by rw [e2]; simp
          have g3 : Fr Non u2 u3 := e3 ▸ (Fr.refl Non u2).alloc _
          have z3 : u3.heap.size = u2.heap.size + 1 := by rw [e3]; simp
          have g4 : Fr Non u3 u4 := e4 ▸ (Fr.refl Non u3).alloc _
          have z4 : u4.heap.size = u3.heap.size + 1 := by rw [e4]; simp
          have g5 : Fr Non u4 u5 := e5 ▸ (Fr.refl Non u4).alloc _
          have z5 : u5.heap.size = u4.heap.size + 1 := by rw [e5]; simp
          have h_c2 : Blk u5 c2 9 [.string (mkS [])] := (((((d1 ▸ e1 ▸ Blk.new u0 _ _ : Blk u1 c2 9 [.string (mkS [])]).fr g2 (fun h => h)).fr g3 (fun h => h)).fr g4 (fun h => h)).fr g5 (fun h => h))
          have h_c0 : Blk u5 c0 36 [] := ((((d2 ▸ e2 ▸ Blk.new u1 _ _ : Blk u2 c0 36 []).fr g3 (fun h => h)).fr g4 (fun h => h)).fr g5 (fun h => h))
          have h_bA : Blk u5 bA 37 [.slice (some ⟨c0, 0, none⟩) 0 0] := (((d3 ▸ e3 ▸ Blk.new u2 _ _ : Blk u3 bA 37 [.slice (some ⟨c0, 0, none⟩) 0 0]).fr g4 (fun h => h)).fr g5 (fun h => h))
          have h_c1 : Blk u5 c1 36 [.slice (some ⟨c2, 0, none⟩) 1 1] := ((d4 ▸ e4 ▸ Blk.new u3 _ _ : Blk u4 c1 36 [.slice (some ⟨c2, 0, none⟩) 1 1]).fr g5 (fun h => h))
          have h_bB : Blk u5 bB 37 [.slice (some ⟨c1, 0, none⟩) 1 1] := (d5 ▸ e5 ▸ Blk.new u4 _ _ : Blk u5 bB 37 [.slice (some ⟨c1, 0, none⟩) 1 1])
          exact leaf u5 c0 bA c2 c1 bB h_c0 h_bA h_c2 h_c1 h_bB ((((g1.trans' g2).trans' g3).trans' g4).trans' g5) ⟨by omega, by omega, by omega, by omega, by omega⟩ ⟨by omega, by omega, by omega, by omega⟩
        · intro c1 u3 d3 e3
          refine ⟨?_, ?_⟩
          · intro bA u4 d4 e4
            intro bB u5 d5 e5
            have g1 : Fr Non u0 u1 := e1 ▸ (Fr.refl Non u0).alloc _
            have z1 : u1.heap.size = u0.heap.size + 1 := by rw [e1]; simp
            have g2 : Fr Non u1 u2 := e2 ▸ (Fr.refl Non u1).alloc _
            have z2 : u2.heap.size = u1.heap.size + 1 := by rw [e2]; simp
            have g3 : Fr Non u2 u3 := e3 ▸ (Fr.refl Non u2).alloc _
            have z3 : u3.heap.size = u2.heap.size + 1 := by rw [e3]; simp
            have g4 : Fr Non u3 u4 := e4 ▸ (Fr.refl Non u3).alloc _
            have z4 : u4.heap.size = u3.heap.size + 1 := by rw [e4]; simp
            have g5 : Fr Non u4 u5 := e5 ▸ (Fr.refl Non u4).alloc _
            have z5 : u5.heap.size = u4.heap.size + 1 := by rw [e5]; simp
            have h_c2 : Blk u5 c2 9 [.string (mkS [])] := (((((d1 ▸ e1 ▸ Blk.new u0 _ _ : Blk u1 c2 9 [.string (mkS [])]).fr g2 (fun h => h)).fr g3 (fun h => h)).fr g4 (fun h => h)).fr g5 (fun h => h))
            have h_c0 : Blk u5 c0 36 [] := ((((d2 ▸ e2 ▸ Blk.new u1 _ _ : Blk u2 c0 36 []).fr g3 (fun h => h)).fr g4 (fun h => h)).fr g5 (fun h => h))
            have h_c1 : Blk u5 c1 36 [.slice (some ⟨c2, 0, none⟩) 1 1] := (((d3 ▸ e3 ▸ Blk.new u2 _ _ : Blk u3 c1 36 [.slice (some ⟨c2, 0, none⟩) 1 1]).fr g4 (fun h => h)).fr g5 (fun h => h))
            have h_bA : Blk u5 bA 37 [.slice (some ⟨c0, 0, none⟩) 0 0] := ((d4 ▸ e4 ▸ Blk.new u3 _ _ : Blk u4 bA 37 [.slice (some ⟨c0, 0, none⟩) 0 0]).fr g5 (fun h => h))
            have h_bB : Blk u5 bB 37 [.slice (some ⟨c1, 0, none⟩) 1 1] := (d5 ▸ e5 ▸ Blk.new u4 _ _ : Blk u5 bB 37 [.slice (some ⟨c1, 0, none⟩) 1 1])
            exact leaf u5 c0 bA c2 c1 bB h_c0 h_bA h_c2 h_c1 h_bB ((((g1.trans' g2).trans' g3).trans' g4).trans' g5) ⟨by omega, by omega, by omega, by omega, by omega⟩ ⟨by omega, by omega, by omega, by omega⟩
          · intro bB u4 d4 e4
            intro bA u5 d5 e5
            have g1 : Fr Non u0 u1 := e1 ▸ (Fr.refl Non u0).alloc _
            have z1 : u1.heap.size = u0.heap.size + 1 := by rw [e1]; simp
            have g2 : Fr Non u1 u2 := e2 ▸ (Fr.refl Non u1).alloc _
            have z2 : u2.heap.size = u1.heap.size + 1 := by rw [e2]; simp
            have g3 : Fr Non u2 u3 := e3 ▸ (Fr.refl Non u2).alloc _
            have z3 : u3.heap.size = u2.heap.size + 1 := by rw [e3]; simp
            have g4 : Fr Non u3 u4 := e4 ▸ (Fr.refl Non u3).alloc _
            have z4 : u4.heap.size = u3.heap.size + 1 := by rw [e4]; simp
            have g5 : Fr Non u4 u5 := e5 ▸ (Fr.refl Non u4).alloc _
            have z5 : u5.heap.size = u4.heap.size + 1 := by rw [e5]; simp
            have h_c2 : Blk u5 c2 9 [.string (mkS [])] := (((((d1 ▸ e1 ▸ Blk.new u0 _ _ : Blk u1 c2 9 [.string (mkS [])]).fr g2 (fun h => h)).fr g3 (fun h => h)).fr g4 (fun h => h)).fr g5 (fun h => h))
            have h_c0 : Blk u5 c0 36 [] := ((((d2 ▸ e2 ▸ Blk.new u1 _ _ : Blk u2 c0 36 []).fr g3 (fun h => h)).fr g4 (fun h => h)).fr g5 (fun h => h))
            have h_c1 : Blk u5 c1 36 [.slice (some ⟨c2, 0, none⟩) 1 1] := (((d3 ▸ e3 ▸ Blk.new u2 _ _ : Blk u3 c1 36 [.slice (some ⟨c2, 0, none⟩) 1 1]).fr g4 (fun h => h)).fr g5 (fun h => h))
            have h_bB : Blk u5 bB 37 [.slice (some ⟨c1, 0, none⟩) 1 1] := ((d4 ▸ e4 ▸ Blk.new u3 _ _ : Blk u4 bB 37 [.slice (some ⟨c1, 0, none⟩) 1 1]).fr g5 (fun h => h))
            have h_bA : Blk u5 bA 37 [.slice (some ⟨c0, 0, none⟩) 0 0] := (d5 ▸ e5 ▸ Blk.new u4 _ _ : Blk u5 bA 37 [.slice (some ⟨c0, 0, none⟩) 0 0])
            exact leaf u5 c0 bA c2 c1 bB h_c0 h_bA h_c2 h_c1 h_bB ((((g1.trans' g2).trans' g3).trans' g4).trans' g5) ⟨by omega, by omega, by omega, by omega, by omega⟩ ⟨by omega, by omega, by omega, by omega⟩
      · intro c1 u2 d2 e2
        refine ⟨?_, ?_⟩
        · intro c0 u3 d3 e3
          refine ⟨?_, ?_⟩
          · intro bA u4 d4 e4
            intro bB u5 d5 e5
            have g1 : Fr Non u0 u1 := e1 ▸ (Fr.refl Non u0).alloc _
            have z1 : u1.heap.size = u0.heap.size + 1 := by rw [e1]; simp
            have g2 : Fr Non u1 u2 := e2 ▸ (Fr.refl Non u1).alloc _
            have z2 : u2.heap.size = u1.heap.size + 1 := by rw [e2]; simp
            have g3 : Fr Non u2 u3 := e3 ▸ (Fr.refl Non u2).alloc _
            have z3 : u3.heap.size = u2.heap.size + 1 := by rw [e3]; simp
            have g4 : Fr Non u3 u4 := e4 ▸ (Fr.refl Non u3).alloc _
            have z4 : u4.heap.size = u3.heap.size + 1 := by rw [e4]; simp
            have g5 : Fr Non u4 u5 := e5 ▸ (Fr.refl Non u4).alloc _
            have z5 : u5.heap.size = u4.heap.size + 1 := by rw [e5]; simp
            have h_c2 : Blk u5 c2 9 [.string (mkS [])] := (((((d1 ▸ e1 ▸ Blk.new u0 _ _ : Blk u1 c2 9 [.string (mkS [])]).fr g2 (fun h => h)).fr g3 (fun h => h)).fr g4 (fun h => h)).fr g5 (fun h => h))
            have h_c1 : Blk u5 c1 36 [.slice (some ⟨c2, 0, none⟩) 1 1] := ((((d2 ▸ e2 ▸ Blk.new u1 _ _ : Blk u2 c1 36 [.slice (some ⟨c2, 0, none⟩) 1 1]).fr g3 (fun h => h)).fr g4 (fun h => h)).fr g5 (fun h => h))
            have h_c0 : Blk u5 c0 36 [] := (((d3 ▸ e3 ▸ Blk.new u2 _ _ : Blk u3 c0 36 []).fr g4 (fun h => h)).fr g5 (fun h => h))
            have h_bA : Blk u5 bA 37 [.slice (some ⟨c0, 0, none⟩) 0 0] := ((d4 ▸ e4 ▸ Blk.new u3 _ _ : Blk u4 bA 37 [.slice (some ⟨c0, 0, none⟩) 0 0]).fr g5 (fun h => h))
            have h_bB : Blk u5 bB 37 [.slice (some ⟨c1, 0, none⟩) 1 1] := (d5 ▸ e5 ▸ Blk.new u4 _ _ : Blk u5 bB 37 [.slice (some ⟨c1, 0, none⟩) 1 1])
            exact leaf u5 c0 bA c2 c1 bB h_c0 h_bA h_c2 h_c1 h_bB ((((g1.trans' g2).trans' g3).trans' g4).trans' g5) ⟨by omega, by omega, by omega, by omega, by omega⟩ ⟨by omega, by omega, by omega, by omega⟩
          · intro bB u4 d4 e4
            intro bA u5 d5 e5
            have g1 : Fr Non u0 u1 := e1 ▸ (Fr.refl Non u0).alloc _
            have z1 : u1.heap.size = u0.heap.size + 1 := by rw [e1]; simp
            have g2 : Fr Non u1 u2 := e2 ▸ (Fr.refl Non u1).alloc _
            have z2 : u2.heap.size = u1.heap.size + 1 := by rw [e2]; simp
            have g3 : Fr Non u2 u3 := e3 ▸ (Fr.refl Non u2).alloc _
            have z3 : u3.heap.size = u2.heap.size + 1 := by rw [e3]; simp
            have g4 : Fr Non u3 u4 := e4 ▸ (Fr.refl Non u3).alloc _
            have z4 : u4.heap.size = u3.heap.size + 1 := by rw [e4]; simp
            have g5 : Fr Non u4 u5 := e5 ▸ (Fr.refl Non u4).alloc _
            have z5 : u5.heap.size = u4.heap.size + 1 := by rw [e5]; simp
            have h_c2 : Blk u5 c2 9 [.string (mkS [])] := (((((d1 ▸ e1 ▸ Blk.new u0 _ _ : Blk u1 c2 9 [.string (mkS [])]).fr g2 (fun h => h)).fr g3 (fun h => h)).fr g4 (fun h => h)).fr g5 (fun h => h))
            have h_c1 : Blk u5 c1 36 [.slice (some ⟨c2, 0, none⟩) 1 1] := ((((d2 ▸ e2 ▸ Blk.new u1 _ _ : Blk u2 c1 36 [.slice (some ⟨c2, 0, none⟩) 1 1]).fr g3 (fun h => h)).fr g4 (fun h => h)).fr g5 (fun h => h))
            have h_c0 : Blk u5 c0 36 [] := (((d3 ▸ e3 ▸ Blk.new u2 _ _ : Blk u3 c0 36 []).fr g4 (fun h => h)).fr g5 (fun h => h))
            have h_bB : Blk u5 bB 37 [.slice (some ⟨c1, 0, none⟩) 1 1] := ((d4 ▸ e4 ▸ Blk.new u3 _ _ : Blk u4 bB 37 [.slice (some ⟨c1, 0, none⟩) 1 1]).fr g5 (fun h => h))
            have h_bA : Blk u5 bA 37 [.slice (some ⟨c0, 0, none⟩) 0 0] := (d5 ▸ e5 ▸ Blk.new u4 _ _ : Blk u5 bA 37 [.slice (some ⟨c0, 0, none⟩) 0 0])
            exact leaf u5 c0 bA c2 c1 bB h_c0 h_bA h_c2 h_c1 h_bB ((((g1.trans' g2).trans' g3).trans' g4).trans' g5) ⟨by omega, by omega, by omega, by omega, by omega⟩ ⟨by omega, by omega, by omega, by omega⟩
        · intro bB u3 d3 e3
          intro c0 u4 d4 e4
          intro bA u5 d5 e5
          have g1 : Fr Non u0 u1 := e1 ▸ (Fr.refl Non u0).alloc _
          have z1 : u1.heap.size = u0.heap.size + 1 := by rw [e1]; simp
          have g2 : Fr Non u1 u2 := e2 ▸ (Fr.refl Non u1).alloc _
          have z2 : u2.heap.size = u1.heap.size + 1 := by rw [e2]; simp
          have g3 : Fr Non u2 u3 := e3 ▸ (Fr.refl Non u2).alloc _
          have z3 : u3.heap.size = u2.heap.size + 1 := by rw [e3]; simp
          have g4 : Fr Non u3 u4 := e4 ▸ (Fr.refl Non u3).alloc _
          have z4 : u4.heap.size = u3.heap.size + 1 := by rw [e4]; simp
          have g5 : Fr Non u4 u5 := e5 ▸ (Fr.refl Non u4).alloc _
          have z5 : u5.heap.size = u4.heap.size + 1 := by rw [e5]; simp
          have h_c2 : Blk u5 c2 9 [.string (mkS [])] := (((((d1 ▸ e1 ▸ Blk.new u0 _ _ : Blk u1 c2 9 [.string (mkS [])]).fr g2 (fun h => h)).fr g3 (fun h => h)).fr g4 (fun h => h)).fr g5 (fun h => h))
          have h_c1 : Blk u5 c1 36 [.slice (some ⟨c2, 0, none⟩) 1 1] := ((((d2 ▸ e2 ▸ Blk.new u1 _ _ : Blk u2 c1 36 [.slice (some ⟨c2, 0, none⟩) 1 1]).fr g3 (fun h => h)).fr g4 (fun h => h)).fr g5 (fun h => h))
          have h_bB : Blk u5 bB 37 [.slice (some ⟨c1, 0, none⟩) 1 1] := (((d3 ▸ e3 ▸ Blk.new u2 _ _ : Blk u3 bB 37 [.slice (some ⟨c1, 0, none⟩) 1 1]).fr g4 (fun h => h)).fr g5 (fun h => h))
          have h_c0 : Blk u5 c0 36 [] := ((d4 ▸ e4 ▸ Blk.new u3 _ _ : Blk u4 c0 36 []).fr g5 (fun h => h))
          have h_bA : Blk u5 bA 37 [.slice (some ⟨c0, 0, none⟩) 0 0] := (d5 ▸ e5 ▸ Blk.new u4 _ _ : Blk u5 bA 37 [.slice (some ⟨c0, 0, none⟩) 0 0])
          exact leaf u5 c0 bA c2 c1 bB h_c0 h_bA h_c2 h_c1 h_bB ((((g1.trans' g2).trans' g3).trans' g4).trans' g5) ⟨by omega, by omega, by omega, by omega, by omega⟩ ⟨by omega, by omega, by omega, by omega⟩
  · have hjn : j = N := by have := of_decide_eq_false h; omega
    subst hjn
    have k63 := hfr9 hFr
    have hX63 := hXa hFr
    have hRm := hR9.fr k63
    have hRx := OwM.rd hO
    have hokx : OkM isName d (cs ++ [(⟨g.name, g.flds ++ es⟩ : Seg)]) := hok.grow (fun f hf => (hem f hf).2.1) (by omega)
    have hcan : canM (cs ++ [(⟨g.name, g.flds ++ es⟩ : Seg)]) = canM (cs ++ [g]) := canM_empty cs g es fun f hf => (hem f hf).1
    obtain ⟨L, hL⟩ : ∃ L : List Seg, L = cs ++ [(⟨g.name, g.flds ++ es⟩ : Seg)] := ⟨_, rfl⟩
    have hbx : bkM L ≤ BB := by
      have h1 := Emp.sum hem
      rw [hL, bkM_snoc, bkG_grow]
      rw [bkM_snoc] at hb
      have e1 : bkG ⟨g.name, g.flds⟩ = bkG g := rfl
      rw [e1]; unfold BB; omega
    rw [← hL] at hRx hokx hcan
    have hvx : validM (mD d z) L = true := valid_of (Dg_mD _ _) (by rw [dm_mD]; exact hokx)
    have ep : Go.V.printP d L = Go.V.printP d (cs ++ [g]) := printP_congr d hcan
    have eE : prE (mD d z) L = prE (mD d s) (cs ++ [g]) := by unfold prE; rw [hvx, hv, dm_mD, dm_mD, ep]
    have eS : prS (mD d z) L = prS (mD d s) (cs ++ [g]) := by unfold prS; rw [eE, dm_mD, dm_mD, ep]
    refine ⟨_, _, _, _, _, s, msgAts (hM.fr k63 (fun h => h)), tprint_spec (mD d s) (cs ++ [g]) hRm hbB hd fun w200 f200 => ⟨_, _, rfl, _, _, _, _, _, z, msgAts (hX63.fr f200 (fun h => h)), tprint_spec (mD d z) L (hRx.fr f200) hbx (Dg_mD d z) fun w210 f210 => ⟨_, _, rfl, ?_⟩⟩⟩
    rintro w214 rfl
    have g214 := (f200.trans' f210).trans' (Fr.refl Non w210).drew
    refine alive8_spec (hG9.fr (k63.trans' g214) (fun h => h)) fun w215 f215 => ⟨_, rfl, fun _ => ⟨fun _ => ⟨fun _ => ?_, fun h => ?_⟩, fun h => ?_⟩, fun h => by cases h⟩
    · have k215 := g214.trans' f215
      refine ⟨_, _, _, _, _, s, msgAts (hM.fr (k63.trans' k215) (fun h => h)), _, _, _, _, _, z, msgAts (hX63.fr k215 (fun h => h)), canon_spec (mD d s) (cs ++ [g]) (hRm.fr k215) hS fun y1 w230 hy1 f230 => ⟨f230.ext, _, _, _, _, _, y1, rfl, canon_spec (mD d z) L (hRx.fr (k215.trans' f230)) (SmM_of hbx) fun y2 w238 hy2 f238 => ⟨_, _, _, _, _, y2, rfl, same_spec (mD d y1) (mD d y2) (canM (cs ++ [g])) (canM L) ((OwM.rd hy1).fr f238) (OwM.rd hy2) (SmM_can hS) fun w246 f246 => ⟨_, rfl, ?_⟩⟩⟩⟩
      have e : (dlB (mD d y1) (mD d y2) && decide (canM (cs ++ [g]) = canM L)) = true := by rw [dlB_mD, hcan]; simp
      rw [e]; exact hk _ (f9.trans' ((((k63.trans' k215).trans' f230).trans' f238).trans' f246))
    · rw [eE] at h; simp at h
    · rw [eS] at h; simp at h
end
end Go.Proofs.YtoaoofobidhfjaaGreatDoor
