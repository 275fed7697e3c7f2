/- path.Set. -/
import Derived.Test.YthpeengmcjpknaaGreatDoorPMC
import Derived.Test.YthpeengmcjpknaaGreatDoorPM3a
set_option linter.unusedSimpArgs false
set_option linter.unusedVariables false
namespace Go.Proofs.YthpeengmcjpknaaGreatDoor
open Go.V Go.RowKit
def SgC (D : Nat → Prop) (w : World) (xs : List Value) (l : List Seg) : Prop :=
  xs.length = l.length * 2 ∧ ∀ i (h : i < l.length), xs[i * 2]? = some (.string (mkS l[i].name)) ∧ ∃ z : Sl, xs[i * 2 + 1]? = some (.slice z.base z.len z.cap) ∧ RdLD D 1 (RFD D) w z l[i].flds
section
variable {w w' : World} {k : Value → World → Prop} {D D' : Nat → Prop}
theorem SgC.kp {xs : List Value} {l : List Seg} (h : SgC D w xs l) (e : ∀ b, D b → w'.heap[b]? = w.heap[b]?) : SgC D w' xs l :=
  ⟨h.1, fun i hi => let ⟨h1, z, h2, h3⟩ := h.2 i hi; ⟨h1, z, h2, h3.kp RFD.kp e⟩⟩
theorem SgC.mono {xs : List Value} {l : List Seg} (h : SgC D w xs l) (hD : ∀ b, D b → D' b) : SgC D' w xs l :=
  ⟨h.1, fun i hi => let ⟨h1, z, h2, h3⟩ := h.2 i hi; ⟨h1, z, h2, h3.imp hD fun _ _ h => RFD.mono h hD⟩⟩
theorem add_adS (a : Addr) (i j : Nat) (h : a.spot = none) : (a.add i).add j = a.add (i + j) := by
  obtain ⟨b, o, s⟩ := a
  simp only at h; subst h
  rw [add_mk, add_mk, add_mk, Nat.add_assoc]
theorem SlOk.spot {T : TypeId} {sz : Nat} {s : Sl} {xs : List Value} {F : Nat → Prop} (h : SlOk w T sz s xs F) {a : Addr} (ha : s.base = some a) : a.spot = none ∧ F a.block := by
  rcases h with ⟨hb, _⟩ | ⟨g, hF, hA⟩
  · rw [hb] at ha; cases ha
  · obtain ⟨off, cs, hb, _⟩ := hA.has
    rw [hb] at ha; cases ha
    exact ⟨rfl, hF⟩
theorem SgC.rd {T : TypeId} {s : Sl} {xs : List Value} {l : List Seg} {F : Nat → Prop} (hS : SlOk w T 2 s xs F) (h : SgC D w xs l) (hF : ∀ b, F b → D b) : RMD D w s l := by
  have hl := hS.len
  have h1 := h.1
  refine ⟨by omega, fun i hi => ?_⟩
  obtain ⟨h2, z, h3, h4⟩ := h.2 i hi
  obtain ⟨a, ha, hc⟩ := hS.at h2
  obtain ⟨a', ha', hc'⟩ := hS.at h3
  rw [ha] at ha'; cases ha'
  obtain ⟨hsp, hFa⟩ := SlOk.spot hS ha
  exact ⟨a, ha, hF _ hFa, hc, z, by rw [add_adS _ _ _ hsp]; exact hc', h4⟩
theorem spot_none {a : Addr} {v : Value} (h : w.cell? a = some v) : a.spot = none := by
  unfold World.cell? at h
  split at h
  · split at h
    · cases h
    · rename_i hs
      cases ha : a.spot with
      | none => rfl
      | some q => rw [ha] at hs; simp at hs
  · cases h
theorem RMD.sgc {s : Sl} {l : List Seg} (h : RMD D w s l) : ∃ xs : List Value, SgC D w xs l ∧ (∀ v ∈ xs, v.oneCell' = true) ∧ xs.length = s.len * 2 ∧ ∀ j v, xs[j]? = some v → ∃ a, s.base = some a ∧ w.cell? (a.add j) = some v := by
  suffices hh : ∀ n, n ≤ l.length → ∃ xs : List Value, xs.length = n * 2 ∧ (∀ i (hi : i < n) (h : i < l.length), xs[i * 2]? = some (.string (mkS l[i].name)) ∧ ∃ z : Sl, xs[i * 2 + 1]? = some (.slice z.base z.len z.cap) ∧ RdLD D 1 (RFD D) w z l[i].flds) ∧ (∀ v ∈ xs, v.oneCell' = true) ∧ ∀ j v, xs[j]? = some v → ∃ a, s.base = some a ∧ w.cell? (a.add j) = some v by
    obtain ⟨xs, h1, h2, h3, h4⟩ := hh l.length (Nat.le_refl _)
    exact ⟨xs, ⟨h1, fun i hi => h2 i hi hi⟩, h3, by rw [h1, h.1], h4⟩
  intro n
  induction n with
  | zero => intro _; exact ⟨[], rfl, fun i hi => by omega, by simp, by simp⟩
  | succ n ih =>
    intro hn
    obtain ⟨xs, h1, h2, h3, h4⟩ := ih (by omega)
    obtain ⟨a, ha, _, hnm, z, hz, hZ⟩ := h.2 n (by omega)
    have hsp : a.spot = none := by
      obtain ⟨a0, ha0, _, hn0, _⟩ := h.2 0 (by omega)
      rw [ha] at ha0; cases ha0
      exact spot_none hn0
    refine ⟨xs ++ [.string (mkS l[n].name), .slice z.base z.len z.cap], by simp [h1]; omega, fun i hi hi2 => ?_, fun v hv => ?_, fun j v hv => ?_⟩
    · by_cases hin : i < n
      · obtain ⟨e1, z2, e2, e3⟩ := h2 i hin hi2
        exact ⟨by rw [List.getElem?_append_left (by omega)]; exact e1, z2, by rw [List.getElem?_append_left (by omega)]; exact e2, e3⟩
      · have : i = n := by omega
        subst this
        exact ⟨by rw [List.getElem?_append_right (by omega), h1, Nat.sub_self]; rfl, z, by rw [List.getElem?_append_right (by omega), h1, Nat.add_sub_cancel_left]; rfl, hZ⟩
    · rcases List.mem_append.1 hv with hv | hv
      · exact h3 v hv
      · simp at hv; rcases hv with rfl | rfl <;> rfl
    · by_cases hj : j < xs.length
      · rw [List.getElem?_append_left hj] at hv; exact h4 j v hv
      · rw [List.getElem?_append_right (by omega)] at hv
        have hlt := (List.getElem?_eq_some_iff.1 hv).1
        simp at hlt
        have : j = n * 2 ∨ j = n * 2 + 1 := by omega
        rcases this with rfl | rfl
        · rw [h1, Nat.sub_self] at hv
          simp at hv; subst hv
          exact ⟨a, ha, hnm⟩
        · rw [h1, Nat.add_sub_cancel_left] at hv
          simp at hv; subst hv
          exact ⟨a, ha, by rw [← add_adS _ _ _ hsp]; exact hz⟩
theorem cloneM_spec (x : Sl) (l : List Seg) (hx : RMD D w x l) (hl : l.length ≤ BB) (hk : ∀ s xs w', SgC D w xs l → SlOk w' 79 2 s xs (fun b => w.heap.size ≤ b ∧ b < w'.heap.size) → Fr Non w w' → k (.slice s.base s.len s.cap) w') : Cl Tryz.prog 56 [.slice x.base x.len x.cap] w k := by
  refine f56_ok ?_
  unfold f56
  unfold BB at hl
  have hL := hx.1
  obtain ⟨xs, h1, h2, h3, h4⟩ := RMD.sgc hx
  refine ⟨fun h => ?_, fun h b2 w3 hb2 hw3 => ?_⟩
  · have hn : x.base = none := by cases hb : x.base with
      | none => rfl
      | some a => rw [hb] at h; cases h
    have : xs = [] := by
      cases hxs : xs with
      | nil => rfl
      | cons v r =>
        obtain ⟨a, ha, _⟩ := h4 0 v (by rw [hxs]; rfl)
        rw [hn] at ha; cases ha
    subst this
    exact hk ⟨none, 0, 0⟩ [] w h1 (SlOk.nil _ _ _ _) (Fr.refl _ _)
  · obtain ⟨s', w', hr, hs, hlen, hf⟩ := clone_cells (P := Tryz.prog) (sz := 2) kU34 kS49 kZ49 kB49 rfl (by omega) (x := x) (xs := xs) (by omega) h4 h2 h (by omega) (by omega) hb2 hw3 24
    exact ⟨s', w', hr, hk s' xs w' h1 hs hf⟩
end
theorem wthN_all {α : Type} {n : Nat} {g : List α → List α} {l : List (List α)} {P : List α → Prop} (h : ∀ x ∈ l, P x) (h0 : P []) (hg : ∀ x, P x → P (g x)) : ∀ x ∈ wthN n g l, P x := by
  intro x hx
  unfold wthN at hx
  have hall : ∀ y ∈ l ++ List.replicate (n - l.length) [], P y := by
    intro y hy
    rcases List.mem_append.1 hy with hy | hy
    · exact h y hy
    · rw [List.eq_of_mem_replicate hy]; exact h0
  rcases List.mem_or_eq_of_mem_set hx with hx | rfl
  · exact hall x hx
  · apply hg
    by_cases hi : n - 1 < (l ++ List.replicate (n - l.length) []).length
    · rw [List.getD_eq_getElem?_getD, List.getElem?_eq_getElem hi]; exact hall _ (List.getElem_mem hi)
    · rw [List.getD_eq_getElem?_getD, List.getElem?_eq_none (by omega)]; exact h0
theorem SmC_set {p : Pa} {v : Str} {c : Cmp} (h : SmC c) (hp : p.sub.toNat ≤ BB) (hv : v.length ≤ BB) : SmC (setC p v c) :=
  ⟨by unfold setC; rw [wthN_len]; have := h.1; omega, wthN_all (P := fun u : Str => u.length ≤ BB) h.2 (Nat.zero_le _) (fun _ _ => hv)⟩
theorem SmR_set {p : Pa} {v : Str} {c : Rept} (h : SmR c) (h1 : p.sub.toNat ≤ BB) (h2 : p.cmp.toNat ≤ BB) (hv : v.length ≤ BB) : SmR (setR p v c) :=
  ⟨by unfold setR; rw [wthN_len]; have := h.1; omega, wthN_all h.2 SmC0 (fun _ hx => SmC_set hx h1 hv)⟩
theorem SmF_set {p : Pa} {v : Str} {c : Fldt} (h : SmF c) (h1 : p.sub.toNat ≤ BB) (h2 : p.cmp.toNat ≤ BB) (h3 : p.rep.toNat ≤ BB) (hv : v.length ≤ BB) : SmF (setFd p v c) :=
  ⟨by unfold setFd; rw [wthN_len]; have := h.1; omega, wthN_all h.2 SmR0 (fun _ hx => SmR_set hx h1 h2 hv)⟩
theorem SmG_set {p : Pa} {v : Str} {g : Seg} (h : SmG g) (h1 : p.sub.toNat ≤ BB) (h2 : p.cmp.toNat ≤ BB) (h3 : p.rep.toNat ≤ BB) (h4 : p.fld.toNat ≤ BB) (hv : v.length ≤ BB) : SmG ⟨g.name, setFs p v g.flds⟩ :=
  ⟨h.1, by show (setFs p v g.flds).length ≤ BB; unfold setFs; rw [wthN_len]; have := h.2.1; omega, wthN_all h.2.2 SmF0 (fun _ hx => SmF_set hx h1 h2 h3 hv)⟩
def grownS (l : List Seg) (p : Pa) : List Seg := if p.occ = (cnt p.seg l : Nat) + 1 then l ++ [⟨p.seg, []⟩] else l
def modS (p : Pa) (v : Str) (g : Seg) : Seg := ⟨g.name, setFs p v g.flds⟩
def stL (l : List Seg) (p : Pa) (v : Str) : List Seg := match atF p.seg p.occ (grownS l p) with
  | some i => canM ((grownS l p).modify i (modS p v))
  | none => []
def setE (m : Mh) (l : List Seg) (p : Pa) : Int :=
  if askE m l p false ≠ 0 then askE m l p false else
  if (decide (100 < p.fld) || decide (50 < max (max p.rep p.cmp) p.sub)) = true then 2 else
  if (cnt p.seg l : Nat) + 1 < p.occ then 3 else
  if (decide (p.occ = (cnt p.seg l : Nat) + 1) && decide (200 ≤ l.length)) = true then 2 else 0
theorem askE_ok {m : Mh} {l : List Seg} {p : Pa} {b : Bool} (h : askE m l p b = 0) : validM m l = true ∧ mayP p b = true := by
  unfold askE at h
  split at h
  · split at h
    · exact ⟨‹_›, ‹_›⟩
    · cases h
  · cases h
theorem mayP_in {p : Pa} (h : mayP p false = true) : validP p = true ∧ 1 ≤ p.fld := by
  unfold mayP at h
  simp only [Bool.and_eq_true, Bool.or_eq_true, Bool.false_and, Bool.or_false, decide_eq_true_eq] at h
  exact ⟨h.1, by have := h.2.2.2; omega⟩
theorem cnt_app (name : Str) (l : List Seg) (g : Seg) : cnt name (l ++ [g]) = cnt name l + (if g.name == name then 1 else 0) := by
  unfold cnt; rw [List.countP_append]; simp [List.countP_cons]
theorem grown_at {l : List Seg} {p : Pa} (h1 : 1 ≤ p.occ) (h2 : p.occ ≤ (cnt p.seg l : Nat) + 1) : ∃ i, i < (grownS l p).length ∧ atF p.seg p.occ (grownS l p) = some i := by
  have : (atF p.seg p.occ (grownS l p)).isSome = true := by
    rw [atF_isSome p.seg _ h1, decide_eq_true_eq]
    unfold grownS
    split
    · rw [cnt_app]; simp; omega
    · omega
  cases h : atF p.seg p.occ (grownS l p) with
  | none => rw [h] at this; cases this
  | some i => exact ⟨i, atF_lt h, rfl⟩
theorem setc_kp {w : World} {D : Nat → Prop} {a : Addr} {v : Value} (h : ¬ D a.block) : ∀ b, D b → (w.setCell a v).heap[b]? = w.heap[b]? := fun b hb => heap_ne (fun e => h (e ▸ hb))
section
variable {w : World} {k : Value → World → Prop}
def mz : Mh := ⟨0, 0, 0, 0, 0, ⟨none, 0, 0⟩⟩
set_option maxHeartbeats 4000000 in
theorem setP_spec (m : Mh) (p : Pa) (v : Str) (l : List Seg) (hR : RM w m.s l) (hS : SmM l) (hd : Dg m) (hp : p.seg.length ≤ 1000000000000) (ho : -9223372036854775808 ≤ p.occ ∧ p.occ ≤ 9223372036854775807) (hv : v.length ≤ BB) (hlen : l.length < BB)
    (hk0 : setE m l p = 0 → ∀ (y : Sl) w', OwM w' y (stL l p v) (fun b => w.heap.size ≤ b) → Fr Non w w' → k (.tuple (List.toArray [.agg (List.toArray (mc { m with s := y })), .int .i64 0])) w')
    (hke : setE m l p ≠ 0 → ∀ w', Fr Non w w' → k (.tuple (List.toArray [.agg (List.toArray (mc mz)), .int .i64 (setE m l p)])) w') : Cl Tryz.prog 12 [.agg (List.toArray (mc m)), .agg (List.toArray (pc p)), .string (mkS v)] w k := by
  refine f12_ok ?_
  unfold f12
  intro b14 w15 hb14 hw15 b16 w17 hb16 hw17 b18 w19 hb18 hw19
  have f15 : Fr Non w w15 := hw15 ▸ (Fr.refl Non w).alloc _
  have f17 : Fr Non w w17 := hw17 ▸ f15.alloc _
  have f19 : Fr Non w w19 := hw19 ▸ f17.alloc _
  have hM15 : Blk w15 b14 26 (mc m) := hb14 ▸ hw15 ▸ Blk.new w (mc m) 26
  have hM17 : Blk w17 b14 26 (mc m) := hw17 ▸ hM15.alloc _
  have hM : Blk w19 b14 26 (mc m) := hw19 ▸ hM17.alloc _
  have hP17 : Blk w17 b16 28 (pc p) := hb16 ▸ hw17 ▸ Blk.new w15 (pc p) 28
  have hP : Blk w19 b16 28 (pc p) := hw19 ▸ hP17.alloc _
  have hZ : Blk w19 b18 26 (mc mz) := hb18 ▸ hw19 ▸ Blk.new w17 _ _
  have l18 := hZ.lt
  have z19 := f19.size
  have z17 := f17.size
  have hS' := hS
  obtain ⟨hS0, hSG⟩ := hS'
  unfold BB at hS0 hlen
  have ats : ∀ {w' : World} {b : Nat} {m : Mh}, Blk w' b 26 (mc m) → cellsAt w' ⟨b, 0, none⟩ 0 (mc m) := fun h => h.ats (mc _) 0 0 (fun q v hq => by simpa using hq)
  have hpc : ∀ {w' : World} {i : Nat} {u : Value}, Fr Non w19 w' → (pc p)[i]? = some u → w'.cell? ((⟨b16, 0, none⟩ : Addr).add i) = some u := fun f h => by rw [add_mk, Nat.zero_add]; exact (hP.fr f (fun h => h)).cell h
  -- the way out with an error
  have outE : ∀ (e : Int) w', Fr Non w19 w' → setE m l p = e → e ≠ 0 → mayCells w' (⟨b18, 0, none⟩) 0 6 ∧ ∀ w35, w35 = setCells w' (⟨b18, 0, none⟩) 0 [.int .u8 0, .int .u8 0, .int .u8 0, .int .u8 0, .int .u8 0, .slice none 0 0] → ∃ (x36 : Int) (x37 : Int) (x38 : Int) (x39 : Int) (x40 : Int) (x41 : Sl), cellsAt w35 (⟨b18, 0, none⟩) 0 [.int .u8 x36, .int .u8 x37, .int .u8 x38, .int .u8 x39, .int .u8 x40, .slice x41.base x41.len x41.cap] ∧ k (.tuple (List.toArray [.agg (List.toArray [.int .u8 x36, .int .u8 x37, .int .u8 x38, .int .u8 x39, .int .u8 x40, .slice x41.base x41.len x41.cap]), .int .i64 e])) w35 := by
    intro e w' f he hne
    have hZ' := hZ.fr f (fun h => h)
    refine ⟨mayCells_of hZ' 0 6 (by simp [mc]), ?_⟩
    rintro w35 rfl
    have h2 := hZ'.setAll (vs := mc mz) rfl
    refine ⟨0, 0, 0, 0, 0, ⟨none, 0, 0⟩, ats h2, ?_⟩
    have := hke (by rw [he]; exact hne) _ ((f19.trans' f).setAll hZ' (vs := mc mz) rfl (fun h => absurd h (by omega)))
    rw [he] at this; exact this
  refine ⟨m.d1, m.d2, m.d3, m.d4, m.d5, m.s, ats hM, p.seg, p.occ, p.fld, p.rep, p.cmp, p.sub, patat hP, asked_spec m p false l (hR.fr f19) hS hd (by omega) fun w32 g32 => ⟨_, rfl, fun he => outE _ _ g32 ?_ ?_, fun he => ?_⟩⟩
  · have he : askE m l p false ≠ 0 := by simpa using he
    unfold setE; rw [if_pos he]
  · simpa using he
  have he : askE m l p false = 0 := by simpa using he
  obtain ⟨_, hmay⟩ := askE_ok he
  obtain ⟨hval, hf1⟩ := mayP_in hmay
  obtain ⟨⟨p1, p2⟩, ⟨r1, r2⟩, ⟨c1, c2⟩, ⟨u1, u2⟩⟩ := valid_in hval (by omega)
  have hocc : 1 ≤ p.occ ∧ p.occ ≤ 200 := by
    unfold validP at hval; simp only [Bool.and_eq_true] at hval; exact inR_bnd hval.1.2
  have hE1 : setE m l p = if (decide (100 < p.fld) || decide (50 < max (max p.rep p.cmp) p.sub)) = true then 2 else
      if (cnt p.seg l : Nat) + 1 < p.occ then 3 else if (decide (p.occ = (cnt p.seg l : Nat) + 1) && decide (200 ≤ l.length)) = true then 2 else 0 := by
    unfold setE; rw [if_neg (by rw [he]; simp)]
  have hcl := cnt_le p.seg l
  have ew : IntKind.i64.wrap (((cnt p.seg l : Nat) : Int) + 1) = ((cnt p.seg l : Nat) : Int) + 1 := w64_id (by omega) (by omega)
  refine ⟨m.d1, m.d2, m.d3, m.d4, m.d5, m.s, ats (hM.fr g32 (fun h => h)), p.seg, hpc g32 (i := 0) rfl, count_spec m p.seg l (hR.fr (f19.trans' g32)) hS.1 fun w49 g49 => ⟨_, rfl, ?_⟩⟩
  rw [ew]
  have k49 := g32.trans' g49
  refine ⟨fun b w' => b = (decide (100 < p.fld) || decide (50 < max (max p.rep p.cmp) p.sub)) ∧ w' = w49, ?_, p.fld, hpc k49 rfl, fun h => ⟨by rw [h]; rfl, rfl⟩, fun h => ⟨p.rep, hpc k49 rfl, p.cmp, hpc k49 rfl, p.sub, hpc k49 rfl, by rw [h]; rfl, rfl⟩⟩
  rintro b w54 ⟨rfl, rfl⟩
  refine ⟨fun hb => outE 2 _ k49 (by rw [hE1, if_pos hb]) (by decide), fun hb => ?_⟩
  rw [if_neg (by rw [hb]; simp)] at hE1
  refine ⟨p.occ, hpc k49 rfl, fun h => outE 3 _ k49 (by rw [hE1, if_pos (by simpa using h)]) (by decide), fun h => ?_⟩
  have h3 : ¬ (cnt p.seg l : Nat) + 1 < p.occ := by simpa using h
  rw [if_neg h3] at hE1
  refine ⟨fun b w' => b = (decide (p.occ = (cnt p.seg l : Nat) + 1) && decide (200 ≤ l.length)) ∧ w' = w54, ?_, p.occ, hpc k49 rfl, fun h => ⟨m.s, by rw [add_mk]; exact (hM.fr k49 (fun h => h)).cell rfl, ?_, rfl⟩, fun h => ⟨?_, rfl⟩⟩
  case refine_2 =>
    have h : p.occ = (cnt p.seg l : Nat) + 1 := by simpa using h
    rw [decide_eq_true h, hR.1, Bool.true_and]
    by_cases h4 : 200 ≤ l.length
    · rw [decide_eq_true h4, decide_eq_true (by omega)]
    · rw [decide_eq_false h4, decide_eq_false (by omega)]
  case refine_3 =>
    have h : ¬ p.occ = (cnt p.seg l : Nat) + 1 := by simpa using h
    rw [decide_eq_false h]; rfl
  rintro b w76 ⟨rfl, rfl⟩
  refine ⟨fun hb => outE 2 _ k49 (by rw [hE1, if_pos hb]) (by decide), fun hb => ?_⟩
  rw [if_neg (by rw [hb]; simp)] at hE1
  have hk0 := hk0 hE1
  obtain ⟨i, hil, hati⟩ := grown_at hocc.1 (by omega : p.occ ≤ (cnt p.seg l : Nat) + 1)
  have hsetL : stL l p v = canM ((grownS l p).modify i (modS p v)) := by unfold stL; rw [hati]
  have hD : RMD (fun b => b < w.heap.size) w m.s l := hR.d
  -- the message that is made: its block, its list
  let QQ : Nat → Sl → List Value → List Seg → World → Prop := fun b y xs L w' => Blk w' b 26 (mc { m with s := y }) ∧ w19.heap.size ≤ b ∧ SlOk w' 79 2 y xs (fun g => (w19.heap.size ≤ g ∧ g < w'.heap.size) ∧ g ≠ b) ∧ SgC (fun b => b < w.heap.size) w' xs L ∧ Fr Non w19 w'
  have goL : (grownS l p).length < 1099511627777 := by
    unfold grownS; split
    · rw [List.length_append]; simp only [List.length_cons, List.length_nil]; omega
    · omega
  have hgA : ∀ g ∈ grownS l p, SmG g := by
    intro g hg
    unfold grownS at hg
    split at hg
    · rcases List.mem_append.1 hg with hg | hg
      · exact hSG g hg
      · simp at hg; subst hg; exact ⟨by show p.seg.length ≤ BB; unfold BB; omega, Nat.zero_le _, fun f hf => by cases hf⟩
    · exact hSG g hg
  refine ⟨fun a w' => ∃ b y xs, a = ⟨b, 0, none⟩ ∧ QQ b y xs l w', ?_, ?_⟩
  · rintro a w88 ⟨b, y, xs, rfl, hB, hbl, hok, hsg, g88⟩
    have hbl2 := hB.lt
    refine ⟨fun w' => ∃ y xs, QQ b y xs (grownS l p) w', ?_, p.occ, hpc g88 rfl, fun h => ?_, fun h => ?_⟩
    · rintro w109 ⟨y, xs, hB, hbl, hok, hsg, g109⟩
      have z109 := g109.size
      have hrm : RMD (fun _ => True) w109 y (grownS l p) := SgC.rd hok (hsg.mono fun b hb => trivial) (fun b hb => trivial)
      have hxl := hok.len
      have hsl := hsg.1
      refine ⟨m.d1, m.d2, m.d3, m.d4, m.d5, y, ats hB, p.seg, hpc g109 (i := 0) rfl, p.occ, hpc g109 rfl, ?_⟩
      refine at_spec { m with s := y } p.seg p.occ (grownS l p) hrm.c (by unfold BB; omega) ho fun w130 g130 => ⟨_, rfl, ?_⟩
      rw [hati]
      rintro w133 rfl
      have d130 : Fr Non w109 w130.drew := g130.drew
      have hB133 := hB.fr d130 (fun h => h)
      have hok133 := hok.fr d130 (fun _ _ h => h)
      have hsg133 : SgC (fun b => b < w.heap.size) w130.drew xs (grownS l p) := hsg.kp fun b hb => d130.blk b (by omega) (fun h => h)
      have k133 := g109.trans' d130
      obtain ⟨hnm, z, hz, hZf⟩ := hsg133.2 i hil
      obtain ⟨a, ha, hcz⟩ := hok133.at hz
      obtain ⟨hsp, hFa⟩ := SlOk.spot hok133 ha
      have hc5 : w130.drew.cell? ((⟨b, 0, none⟩ : Addr).add 5) = some (.slice y.base y.len y.cap) := by rw [add_mk]; exact hB133.cell rfl
      have B : (0 : Int) ≤ atI (some i) ∧ atI (some i) < (y.len : Int) := ⟨show (0 : Int) ≤ (i : Int) by omega, show (i : Int) < (y.len : Int) by omega⟩
      have hgS : SmG (grownS l p)[i] := hgA _ (List.getElem_mem hil)
      have z133 : w109.heap.size ≤ w130.drew.heap.size := d130.size
      refine ⟨y, hc5, y, hc5, a, ha, B, z, by rw [add_adS _ _ _ hsp]; exact hcz, p.seg, p.occ, p.fld, p.rep, p.cmp, p.sub, patat (hP.fr k133 (fun h => h)), ?_⟩
      refine set_spec z p v (grownS l p)[i].flds hZf (fun b hb => by omega) hgS.2.1 hgS.2.2 (by unfold BB at hv; omega) ⟨p1, by omega⟩ ⟨r1, by omega⟩ ⟨c1, by omega⟩ ⟨u1, by omega⟩ fun u w144 hu g144 => ⟨g144.ext, u, rfl, a, ha, B, ?_⟩
      have z144 := g144.size
      have hB144 := hB133.fr g144 (fun h => h)
      obtain ⟨a', ha', hFa', i1, i2, hok2⟩ := (hok133.fr g144 (fun _ _ h => h)).setv (j := i * 2 + 1) (by omega) (.slice u.base u.len u.cap)
      rw [ha] at ha'; cases ha'
      have hadd : (a.add ((atI (some i)).toNat * 2)).add 1 = a.add (i * 2 + 1) := by rw [show (atI (some i)).toNat = i from rfl, add_adS _ _ _ hsp]
      rw [hadd]
      refine ⟨i1, i2, ?_⟩
      rintro w148 rfl
      have hblk : (a.add (i * 2 + 1)).block = a.block := block_add _ _
      have hab1 : w19.heap.size ≤ a.block := hFa.1.1
      have hab2 : a.block < w109.heap.size := hFa.1.2
      have hB148 : Blk (w144.setCell (a.add (i * 2 + 1)) (.slice u.base u.len u.cap)) b 26 (mc { m with s := y }) := hB144.ne (by rw [hblk]; exact hFa.2) _
      have k148 : Fr Non w19 (w144.setCell (a.add (i * 2 + 1)) (.slice u.base u.len u.cap)) := (k133.trans' g144).set (a := a.add (i * 2 + 1)) (fun h => by rw [hblk] at h; omega) _
      -- the list with the place set
      have hmod : ∀ j (hj : j < ((grownS l p).modify i (modS p v)).length), ((grownS l p).modify i (modS p v))[j] = if i = j then modS p v ((grownS l p)[j]'(by simpa using hj)) else (grownS l p)[j]'(by simpa using hj) := fun j hj => List.getElem_modify _ _ _ _ _
      have hsg2 : SgC (fun _ => True) (w144.setCell (a.add (i * 2 + 1)) (.slice u.base u.len u.cap)) (xs.set (i * 2 + 1) (.slice u.base u.len u.cap)) ((grownS l p).modify i (modS p v)) := by
        have hsg144 : SgC (fun b => b < w.heap.size) w144 xs (grownS l p) := hsg133.kp fun b hb => g144.blk b (by omega) (fun h => h)
        refine ⟨by simp [hsl], fun j hj => ?_⟩
        have hj' : j < (grownS l p).length := by simpa using hj
        rw [hmod j hj]
        obtain ⟨e1, z2, e2, e3⟩ := hsg144.2 j hj'
        by_cases hij : i = j
        · subst hij
          rw [if_pos rfl]
          refine ⟨by rw [List.getElem?_set_ne (by omega)]; exact e1, u, by rw [List.getElem?_set_self (by omega)], ?_⟩
          exact (hu.kp RFD.kp (setc_kp (by rw [hblk]; omega))).imp (fun _ _ => trivial) fun _ _ h => RFD.mono h fun _ _ => trivial
        · rw [if_neg hij]
          refine ⟨by rw [List.getElem?_set_ne (by omega)]; exact e1, z2, by rw [List.getElem?_set_ne (by omega)]; exact e2, ?_⟩
          exact (e3.kp RFD.kp (setc_kp (by rw [hblk]; omega))).imp (fun _ _ => trivial) fun _ _ h => RFD.mono h fun _ _ => trivial
      have hrm2 : RMD (fun _ => True) (w144.setCell (a.add (i * 2 + 1)) (.slice u.base u.len u.cap)) y ((grownS l p).modify i (modS p v)) := SgC.rd hok2 hsg2 (fun b hb => trivial)
      have hSM2 : SmM ((grownS l p).modify i (modS p v)) := by
        refine ⟨by rw [List.length_modify]; unfold BB; omega, fun g hg => ?_⟩
        obtain ⟨j, hj, rfl⟩ := List.mem_iff_getElem.1 hg
        rw [hmod j hj]
        split
        · exact SmG_set (hgA _ (List.getElem_mem _)) (by unfold BB; omega) (by unfold BB; omega) (by unfold BB; omega) (by unfold BB; omega) hv
        · exact hgA _ (List.getElem_mem _)
      refine ⟨m.d1, m.d2, m.d3, m.d4, m.d5, y, ats hB148, ?_⟩
      refine canon_spec { m with s := y } _ hrm2.c hSM2 fun y2 w155 ho2 g155 => ⟨m.d1, m.d2, m.d3, m.d4, m.d5, y2, rfl, ?_⟩
      have k155 := k148.trans' g155
      have z155 := g155.size
      have z148 := k148.size
      have hZ155 := hZ.fr k155 (fun h => h)
      refine ⟨mayCells_of hZ155 0 6 (by simp [mc, mz]), ?_⟩
      rintro w163 rfl
      have hZ163 := hZ155.setAll (vs := mc { m with s := y2 }) rfl
      have hh : Fr (fun b => b = b18) w155 (setCells w155 ⟨b18, 0, none⟩ 0 (mc { m with s := y2 })) := (Fr.refl (fun b => b = b18) w155).setAll hZ155 rfl (fun _ => rfl)
      refine ⟨m.d1, m.d2, m.d3, m.d4, m.d5, y2, ats hZ163, ?_⟩
      rw [hsetL] at hk0
      refine hk0 y2 _ ((ho2.fr (fun _ => EG.st) hh (fun b hb => by omega)).mono fun b hb => ?_) (upN (f19.trans' k155) hh (fun g hg => by omega))
      have := hb.1
      omega
    · have hocc1 : p.occ = (cnt p.seg l : Nat) + 1 := by simpa using h
      have hgr : grownS l p = l ++ [⟨p.seg, []⟩] := by unfold grownS; rw [if_pos hocc1]
      rintro w111 rfl
      have d88 : Fr Non w88 w88.drew := (Fr.refl Non w88).drew
      have hc5 : w88.drew.cell? ((⟨b, 0, none⟩ : Addr).add 5) = some (.slice y.base y.len y.cap) := by rw [add_mk]; exact (hB.fr d88 (fun h => h)).cell rfl
      refine ⟨y, hc5, p.seg, hpc (g88.trans' d88) (i := 0) rfl, clone_spec p.seg (by omega) fun w114 g114 => ⟨g114.ext, p.seg, rfl, ?_⟩⟩
      have e114 := d88.trans' g114
      have hok114 := hok.fr e114 (fun _ _ h => h)
      have z114 : w88.heap.size ≤ w114.heap.size := e114.size
      intro b117 w118 hb117 hw118
      have hxl := hok.len
      have hsl := hsg.1
      obtain ⟨s119, w120, hr, hs, hlen', hf⟩ := push_cell (P := Tryz.prog) (sz := 2) kU34 kS49 kZ49 kB49 rfl (by omega) hok114 (cx := [.string (mkS p.seg), .slice none 0 0]) rfl (by intro v hv; simp at hv; rcases hv with rfl | rfl <;> rfl) (by omega) (by omega) hb117 hw118 (fun g hg => by have := hg.1.2; omega) 1 24
      have z120 := hf.size
      have hB120 := (hB.fr e114 (fun h => h)).fr hf (fun h => h.2 rfl)
      refine ⟨s119, w120, hr, by rw [add_mk]; exact hB120.isS (by simp [mc]), by rw [add_mk]; exact hB120.free _, ?_⟩
      rintro w121 rfl
      rw [add_mk]
      have hh : Fr (fun c => c = b) w120 (w120.setCell ⟨b, 0 + 5, none⟩ (.slice s119.base s119.len s119.cap)) := (Fr.refl (fun c => c = b) w120).set (a := ⟨b, 0 + 5, none⟩) (fun _ => rfl) _
      have szs : (w120.setCell ⟨b, 0 + 5, none⟩ (.slice s119.base s119.len s119.cap)).heap.size = w120.heap.size := by simp [World.setCell]
      have k120 : Fr Non w19 w120 := upN (g88.trans' e114) hf (fun g hg => hg.1.1)
      have z19b := k120.size
      refine ⟨s119, _, hB120.set 5 _, hbl, (hs.mono fun g hg => ?_).fr hh (fun g hg => hg.2), ?_, upN k120 hh (fun g hg => by omega)⟩
      · show (w19.heap.size ≤ g ∧ g < (w120.setCell ⟨b, 0 + 5, none⟩ (.slice s119.base s119.len s119.cap)).heap.size) ∧ g ≠ b
        rw [szs]
        have z88 := g88.size
        rcases hg with ⟨hg | hg, hg2⟩
        · exact ⟨⟨hg.1.1, hg2⟩, hg.2⟩
        · exact ⟨⟨by omega, hg2⟩, by omega⟩
      · have z88 := g88.size
        have h120 : SgC (fun b => b < w.heap.size) w120 xs l := (hsg.kp fun c hc => e114.blk c (by omega) (fun h => h)).kp fun c hc => hf.blk c (by omega) (fun h => by have := h.1.1; omega)
        have h121 : SgC (fun b => b < w.heap.size) (w120.setCell ⟨b, 0 + 5, none⟩ (.slice s119.base s119.len s119.cap)) xs l := h120.kp (setc_kp (by simp only; omega))
        rw [hgr]
        refine ⟨by simp [hsl]; omega, fun j hj => ?_⟩
        by_cases hjl : j < l.length
        · obtain ⟨e1, z2, e2, e3⟩ := h121.2 j hjl
          simp only [List.getElem_append_left hjl]
          exact ⟨by rw [List.getElem?_append_left (by omega)]; exact e1, z2, by rw [List.getElem?_append_left (by omega)]; exact e2, e3⟩
        · have : j = l.length := by simp at hj; omega
          subst this
          simp only [List.getElem_append_right (Nat.le_refl _), Nat.sub_self, List.getElem_cons_zero]
          exact ⟨by rw [List.getElem?_append_right (by omega), hsl, Nat.sub_self]; rfl, ⟨none, 0, 0⟩, by rw [List.getElem?_append_right (by omega), hsl, Nat.add_sub_cancel_left]; rfl, RdLD.nil⟩
    · have hocc1 : ¬ p.occ = (cnt p.seg l : Nat) + 1 := by simpa using h
      have hgr : grownS l p = l := by unfold grownS; rw [if_neg hocc1]
      rw [hgr]
      exact ⟨y, xs, hB, hbl, hok, hsg, g88⟩
  · rintro w89 rfl
    have d49 : Fr Non w76 w76.drew := (Fr.refl Non w76).drew
    have k89 := k49.trans' d49
    have z89 : w19.heap.size ≤ w76.drew.heap.size := k89.size
    have hM89 := hM.fr k89 (fun h => h)
    have hD89 : ∀ {w' : World}, Fr Non w w' → RMD (fun b => b < w.heap.size) w' m.s l := fun f => RdLD.kp RGD.kp (fun b hb => f.blk b hb (fun h => h)) hD
    refine ⟨m.d1, m.d2, m.d3, m.d4, m.d5, ats5 hM89, m.s, by rw [add_mk]; exact hM89.cell rfl, ?_, ?_⟩
    · refine cloneM_spec m.s l (hD89 (f19.trans' k89)) hS.1 fun y xs w96 hsg hok g96 => ⟨g96.ext, y, rfl, ?_⟩
      have z96 : w76.drew.heap.size ≤ w96.heap.size := g96.size
      intro b99 w100 hb99 hw100
      have f100 : Fr Non w96 w100 := hw100 ▸ (Fr.refl Non w96).alloc _
      have hO100 : Blk w100 b99 26 (mc mz) := hb99 ▸ hw100 ▸ Blk.new w96 _ _
      refine ⟨mayCells_of hO100 0 6 (by simp [mc, mz]), ?_⟩
      intro w101 hw101
      have hO101 : Blk w101 b99 26 (mc { m with s := y }) := hw101 ▸ hO100.setAll rfl
      have g101 : Fr Non w96 w101 := upN f100 (hw101 ▸ (Fr.refl (fun g => g = b99) w100).setAll hO100 (vs := mc { m with s := y }) rfl (fun _ => rfl)) (fun g hg => by omega)
      have z101 := g101.size
      exact ⟨b99, y, xs, rfl, hO101, by omega, (hok.fr g101 (fun _ _ h => h)).mono fun g hg => ⟨⟨by omega, by omega⟩, by omega⟩, hsg.kp fun b hb => (g96.trans' g101).blk b (by omega) (fun h => h), (k89.trans' g96).trans' g101⟩
    · intro b102 w103 hb102 hw103
      have f103 : Fr Non w76.drew w103 := hw103 ▸ (Fr.refl Non w76.drew).alloc _
      have hO103 : Blk w103 b102 26 (mc mz) := hb102 ▸ hw103 ▸ Blk.new w76.drew _ _
      have l103 := hO103.lt
      have k103 := k89.trans' f103
      refine cloneM_spec m.s l (hD89 (f19.trans' k103)) hS.1 fun y xs w104 hsg hok g104 => ⟨g104.ext, y, rfl, ?_⟩
      have z104 := g104.size
      have z103 := f103.size
      have hO104 := hO103.fr g104 (fun h => h)
      refine ⟨mayCells_of hO104 0 6 (by simp [mc, mz]), ?_⟩
      intro w107 hw107
      have hO107 : Blk w107 b102 26 (mc { m with s := y }) := hw107 ▸ hO104.setAll rfl
      have g107 : Fr (fun g => g = b102) w104 w107 := hw107 ▸ (Fr.refl (fun g => g = b102) w104).setAll hO104 (vs := mc { m with s := y }) rfl (fun _ => rfl)
      have z107 := g107.size
      exact ⟨b102, y, xs, rfl, hO107, by omega, (hok.fr g107 (fun g hg => by omega)).mono fun g hg => ⟨⟨by omega, by omega⟩, by omega⟩, (hsg.kp fun b hb => g104.blk b (by omega) (fun h => h)).kp fun b hb => g107.blk b (by omega) (by omega), upN (k103.trans' g104) g107 (fun g hg => by omega)⟩
end
end Go.Proofs.YthpeengmcjpknaaGreatDoor
