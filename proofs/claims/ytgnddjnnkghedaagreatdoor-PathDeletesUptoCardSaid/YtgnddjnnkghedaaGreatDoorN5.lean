/- path.Delete. -/
import Derived.Test.YtgnddjnnkghedaaGreatDoorFC
import Derived.Test.YtgnddjnnkghedaaGreatDoorL2
import Derived.Test.YtgnddjnnkghedaaGreatDoorN2a
import Derived.Test.YtgnddjnnkghedaaGreatDoorV15
set_option linter.unusedSimpArgs false
set_option linter.unusedVariables false
namespace Go.Proofs.YtgnddjnnkghedaaGreatDoor
open Go.V Go.RowKit
theorem getElem_erase {α : Type} {l : List α} {i j : Nat} (hi : i < l.length) (h : j < (l.eraseIdx i).length) : ∃ h' : (if j < i then j else j + 1) < l.length, (l.eraseIdx i)[j] = l[if j < i then j else j + 1] := by
  have hl := List.length_eraseIdx_of_lt hi
  have h' : (if j < i then j else j + 1) < l.length := by split <;> omega
  refine ⟨h', ?_⟩
  have : (l.eraseIdx i)[j]? = if j < i then l[j]? else l[j + 1]? := List.getElem?_eraseIdx
  rw [List.getElem?_eq_getElem h] at this
  by_cases hj : j < i
  · rw [if_pos hj, List.getElem?_eq_getElem (by omega)] at this
    simp only [if_pos hj]; exact Option.some.inj this
  · rw [if_neg hj, List.getElem?_eq_getElem (by omega)] at this
    simp only [if_neg hj]; exact Option.some.inj this
theorem SgC.erase {D : Nat → Prop} {w : World} {xs : List Value} {l : List Seg} (h : SgC D w xs l) {i : Nat} (hi : i < l.length) : SgC D w (xs.take (i * 2) ++ xs.drop ((i + 1) * 2)) (l.eraseIdx i) := by
  have hl := List.length_eraseIdx_of_lt hi
  have hx := h.1
  refine ⟨by rw [List.length_append, List.length_take, List.length_drop, hl, hx]; omega, fun j hj => ?_⟩
  obtain ⟨h', e⟩ := getElem_erase hi hj
  obtain ⟨h1, z, h2, h3⟩ := h.2 _ h'
  rw [e]
  have key : ∀ k, k < 2 → (xs.take (i * 2) ++ xs.drop ((i + 1) * 2))[j * 2 + k]? = xs[(if j < i then j else j + 1) * 2 + k]? := by
    intro k hk
    by_cases hj2 : j < i
    · rw [if_pos hj2, List.getElem?_append_left (by rw [List.length_take]; omega), List.getElem?_take, if_pos (by omega)]
    · rw [if_neg hj2, List.getElem?_append_right (by rw [List.length_take]; omega), List.length_take, Nat.min_eq_left (by omega), List.getElem?_drop]
      congr 1; omega
  have k0 := key 0 (by omega)
  have k1 := key 1 (by omega)
  rw [Nat.add_zero, Nat.add_zero] at k0
  exact ⟨k0.trans h1, z, k1.trans h2, h3⟩
theorem SmM_erase {l : List Seg} {i : Nat} (h : SmM l) : SmM (l.eraseIdx i) := ⟨Nat.le_trans (List.length_eraseIdx_le l i) h.1, fun g hg => h.2 g (List.mem_of_mem_eraseIdx hg)⟩
theorem SmM_mod {l : List Seg} {i : Nat} {p : Pa} {v : Str} (h : SmM l) (h1 : p.sub.toNat ≤ BB) (h2 : p.cmp.toNat ≤ BB) (h3 : p.rep.toNat ≤ BB) (h4 : p.fld.toNat ≤ BB) (hv : v.length ≤ BB) : SmM (l.modify i (modS p v)) := by
  refine ⟨by rw [List.length_modify]; exact h.1, fun g hg => ?_⟩
  obtain ⟨j, hj, rfl⟩ := List.mem_iff_getElem.1 hg
  rw [List.getElem_modify]
  split
  · exact SmG_set (h.2 _ (List.getElem_mem _)) h1 h2 h3 h4 hv
  · exact h.2 _ (List.getElem_mem _)
theorem SgC.one {D : Nat → Prop} {w : World} {xs : List Value} {l : List Seg} (h : SgC D w xs l) : ∀ v ∈ xs, v.oneCell' = true := by
  intro v hv
  obtain ⟨j, hj, rfl⟩ := List.mem_iff_getElem.1 hv
  have hx := h.1
  obtain ⟨h1, z, h2, _⟩ := h.2 (j / 2) (by omega)
  by_cases hp : j % 2 = 0
  · have : j / 2 * 2 = j := by omega
    rw [this, List.getElem?_eq_getElem hj] at h1
    rw [Option.some.inj h1]; rfl
  · have : j / 2 * 2 + 1 = j := by omega
    rw [this, List.getElem?_eq_getElem hj] at h2
    rw [Option.some.inj h2]; rfl
theorem zc2 : ∀ u ∈ (Builtin.zeroCells (Value.agg (List.toArray [.string (mkS []), .slice none 0 0])).cells 1).toList, u.oneCell' = true := by
  intro u hu
  have e : (Builtin.zeroCells (Value.agg (List.toArray [.string (mkS []), .slice none 0 0])).cells 1).toList = [.string (mkS []), .slice none 0 0] := by
    simp [Builtin.zeroCells, Value.cells, List.range, List.range.loop]
  rw [e] at hu
  simp at hu
  rcases hu with rfl | rfl <;> rfl
section
variable {w : World} {k : Value → World → Prop}
theorem delS_spec (s : Sl) (xs : List Value) (i : Nat) (F : Nat → Prop) (hS : SlOk w 66 2 s xs F) (hi : i < s.len) (h1 : ∀ v ∈ xs, v.oneCell' = true) (hm : s.len ≤ 1000000000000) (hk : ∀ w', SlOk w' 66 2 ⟨s.base, s.len - 1, s.cap⟩ (xs.take (i * 2) ++ xs.drop ((i + 1) * 2)) F → Fr F w w' → k (.slice s.base (s.len - 1) s.cap) w') : Cl Tryz.prog 39 [.slice s.base s.len s.cap, .int .i64 i, .int .i64 (IntKind.i64.wrap ((i : Int) + 1))] w k := by
  refine f39_ok ?_
  unfold f39
  have e : IntKind.i64.wrap ((i : Int) + 1) = (i : Int) + 1 := w64_id (by omega) (by omega)
  rw [e]
  have hle : s.len ≤ s.cap := by
    rcases hS with ⟨_, h0, _, _⟩ | ⟨g, _, hA⟩
    · omega
    · exact hA.le
  refine ⟨⟨by omega, by omega, by omega, by omega⟩, fun h => ?_, fun _ => ?_⟩
  · have : (i : Int) = (i : Int) + 1 := by simpa using h
    omega
  rintro w4 rfl
  have hS4 := hS.fr ((Fr.refl Non w).drew) (fun _ _ h => h)
  obtain ⟨w1, w2, ha, f1, hc, ho, f2⟩ := del_row (P := Tryz.prog) (sz := 2) kU34 kS49 kZ49 rfl (by omega) zc2 hS4 hi h1 24 0
  refine ⟨⟨by omega, by omega, by omega⟩, ⟨by omega, by omega, trivial⟩, ⟨s.base, s.len - 1, s.cap⟩, w1, ha, ⟨by simp only; omega, by simp only; omega, by simp only; omega⟩, w2, hc, hk w2 ho (((Fr.refl F w).drew).trans' f2)⟩
set_option maxHeartbeats 4000000 in
theorem delP_spec (m : Mh) (p : Pa) (l : List Seg) (hR : RM w m.s l) (hS : SmM l) (hd : Dg m) (hp : p.seg.length ≤ 1000000000000) (ho : -9223372036854775808 ≤ p.occ ∧ p.occ ≤ 9223372036854775807) (hlen : l.length ≤ 1000000000)
    (hk : ∀ (m' : Mh) w', (askE m l p true = 0 → ∃ y, m' = { m with s := y } ∧ RM w' y (dlL l p)) → Fr Non w w' → k (.tuple (List.toArray [.agg (List.toArray (mc m')), .int .i64 (askE m l p true)])) w') : Cl Tryz.prog 12 [.agg (List.toArray (mc m)), .agg (List.toArray (pc p))] w k := by
  refine f12_ok ?_
  unfold f12
  intro b14 w15 hb14 hw15 b16 w17 hb16 hw17 b18 w19 hb18 hw19
  have f15 : Fr Non w w15 := hw15 ▸ (Fr.refl Non w).alloc _
  have f17 : Fr Non w w17 := hw17 ▸ f15.alloc _
  have f19 : Fr Non w w19 := hw19 ▸ f17.alloc _
  have hM15 : Blk w15 b14 26 (mc m) := hb14 ▸ hw15 ▸ Blk.new w (mc m) 26
  have hM17 : Blk w17 b14 26 (mc m) := hw17 ▸ hM15.alloc _
  have hM : Blk w19 b14 26 (mc m) := hw19 ▸ hM17.alloc _
  have hP17 : Blk w17 b16 28 (pc p) := hb16 ▸ hw17 ▸ Blk.new w15 (pc p) 28
  have hP : Blk w19 b16 28 (pc p) := hw19 ▸ hP17.alloc _
  have hZ : Blk w19 b18 26 (mc mz) := hb18 ▸ hw19 ▸ Blk.new w17 _ _
  have l18 := hZ.lt
  have z19 := f19.size
  have z17 := f17.size
  have hBB : BB = 1099511627776 := rfl
  have hpc : ∀ {w' : World} {i : Nat} {u : Value}, Fr Non w19 w' → (pc p)[i]? = some u → w'.cell? ((⟨b16, 0, none⟩ : Addr).add i) = some u := fun f h => by rw [add_mk, Nat.zero_add]; exact (hP.fr f (fun h => h)).cell h
  refine ⟨m.d1, m.d2, m.d3, m.d4, m.d5, m.s, atsM hM, p.seg, p.occ, p.fld, p.rep, p.cmp, p.sub, patat hP, asked_spec m p true l (hR.fr f19) hS hd (by omega) fun w31 g31 => ⟨_, rfl, fun he => ?_, fun he => ?_⟩⟩
  · have he : askE m l p true ≠ 0 := by simpa using he
    have hZ' := hZ.fr g31 (fun h => h)
    refine ⟨mayCells_of hZ' 0 6 (by simp [mc]), ?_⟩
    rintro w35 rfl
    have h2 := hZ'.setAll (vs := mc mz) rfl
    refine ⟨_, _, _, _, _, _, atsM h2, ?_⟩
    exact hk mz _ (fun h => absurd h he) ((f19.trans' g31).setAll hZ' (vs := mc mz) rfl (fun h => absurd h (by omega)))
  have he : askE m l p true = 0 := by simpa using he
  obtain ⟨hvalM, hmay⟩ := askE_ok he
  let QQ : Nat → Sl → List Value → List Seg → World → Prop := fun b y xs L w' => Blk w' b 26 (mc { m with s := y }) ∧ w19.heap.size ≤ b ∧ SlOk w' 66 2 y xs (fun g => (w19.heap.size ≤ g ∧ g < w'.heap.size) ∧ g ≠ b) ∧ SgC (fun b => b < w.heap.size) w' xs L ∧ Fr Non w19 w'
  refine ⟨fun a w' => ∃ b y xs, a = ⟨b, 0, none⟩ ∧ QQ b y xs l w', ?_, ?_⟩
  · rintro a w43 ⟨b, y, xs, rfl, hB, hbl, hok, hsg, g43⟩
    have hrm : RMD (fun _ => True) w43 y l := SgC.rd hok (hsg.mono fun b hb => trivial) (fun b hb => trivial)
    have hxl := hok.len
    have hsl := hsg.1
    have z43 := g43.size
    have lb := hB.lt
    refine ⟨m.d1, m.d2, m.d3, m.d4, m.d5, y, atsM hB, p.seg, hpc g43 (i := 0) rfl, p.occ, hpc g43 rfl, ?_⟩
    refine at_spec { m with s := y } p.seg p.occ l hrm.c hS.1 ho fun w71 g71 => ⟨_, rfl, ?_⟩
    have k71 := g43.trans' g71
    have z71 : w43.heap.size ≤ w71.heap.size := g71.size
    have hB71 := hB.fr g71 (fun h => h)
    have hok71 := hok.fr g71 (fun _ _ h => h)
    have hsg71 : SgC (fun b => b < w.heap.size) w71 xs l := hsg.kp fun b hb => g71.blk b (by omega) (fun h => h)
    refine ⟨fun w' => ∃ (y2 : Sl) (L2 : List Seg), Blk w' b 26 (mc { m with s := y2 }) ∧ RM w' y2 L2 ∧ SmM L2 ∧ canM L2 = dlL l p ∧ Fr Non w19 w', ?_, fun hneg => ?_, fun hpos => ?_⟩
    · rintro w75 ⟨y2, L2, hB2, hR2, hS2, hc, g75⟩
      refine ⟨m.d1, m.d2, m.d3, m.d4, m.d5, y2, atsM hB2, ?_⟩
      refine canon_spec { m with s := y2 } L2 hR2 hS2 fun y3 w119 ho2 g119 => ⟨m.d1, m.d2, m.d3, m.d4, m.d5, y3, rfl, ?_⟩
      have k119 := g75.trans' g119
      have z119 := k119.size
      have z75 := g75.size
      have hZ119 := hZ.fr k119 (fun h => h)
      refine ⟨mayCells_of hZ119 0 6 (by simp [mc, mz]), ?_⟩
      rintro w127 rfl
      have hZ127 := hZ119.setAll (vs := mc { m with s := y3 }) rfl
      have hh : Fr (fun b => b = b18) w119 (setCells w119 ⟨b18, 0, none⟩ 0 (mc { m with s := y3 })) := (Fr.refl (fun b => b = b18) w119).setAll hZ119 rfl (fun _ => rfl)
      refine ⟨m.d1, m.d2, m.d3, m.d4, m.d5, y3, atsM hZ127, ?_⟩
      have := hk { m with s := y3 } (setCells w119 ⟨b18, 0, none⟩ 0 (mc { m with s := y3 })) (fun _ => ⟨y3, rfl, by
        rw [← hc]
        exact OwM.rd (ho2.fr (fun _ => EG.st) hh (fun b hb => by omega))⟩) (upN (f19.trans' k119) hh (fun g hg => by omega))
      rw [he] at this; exact this
    · have hn : atF p.seg p.occ l = none := by
        have := hneg
        rw [atI_neg] at this
        simpa using this
      exact ⟨y, l, hB71, hrm.c.fr g71, hS, by unfold dlL; rw [hn], k71⟩
    · obtain ⟨i, hi⟩ : ∃ i, atF p.seg p.occ l = some i := by
        rw [atI_neg] at hpos
        cases hx : atF p.seg p.occ l with
        | none => rw [hx] at hpos; cases hpos
        | some i => exact ⟨i, rfl⟩
      have hil := atF_lt hi
      have hdl : dlL l p = if p.fld = 0 then canM (l.eraseIdx i) else if getP l p = [] then canM l else canM (l.modify i (modS p [])) := by unfold dlL; rw [hi]
      rw [hi]
      have hai : atI (some i) = (i : Int) := rfl
      rw [hai]
      refine ⟨p.fld, hpc k71 rfl, fun h0 => ?_, fun h0 => ?_⟩
      · have h0 : p.fld = 0 := by simpa using h0
        rw [if_pos h0] at hdl
        refine ⟨y, by rw [add_mk]; exact hB71.cell rfl, delS_spec y xs i _ hok71 (by omega) hsg71.one (by omega) fun w78 hok78 f78 => ⟨⟨y.base, y.len - 1, y.cap⟩, rfl, ?_⟩⟩
        have hB78 := hB71.fr f78 (fun h => h.2 rfl)
        refine ⟨by rw [add_mk]; exact hB78.isS (by simp [mc]), by rw [add_mk]; exact hB78.free _, ?_⟩
        rintro w81 rfl
        rw [add_mk]
        have hh : Fr (fun c => c = b) w78 (w78.setCell ⟨b, 0 + 5, none⟩ (.slice y.base (y.len - 1) y.cap)) := (Fr.refl (fun c => c = b) w78).set (a := ⟨b, 0 + 5, none⟩) (fun _ => rfl) _
        have k78 : Fr Non w19 w78 := upN k71 f78 (fun g hg => hg.1.1)
        have z78 := f78.size
        have hsg78 : SgC (fun b => b < w.heap.size) w78 xs l := hsg71.kp fun c hc => f78.blk c (by omega) (fun h => by have := h.1.1; omega)
        have hsg81 := (hsg78.kp (w' := w78.setCell ⟨b, 0 + 5, none⟩ (.slice y.base (y.len - 1) y.cap)) (setc_kp (by simp only; omega))).erase hil
        have hok81 := hok78.fr hh (fun g hg => hg.2)
        refine ⟨⟨y.base, y.len - 1, y.cap⟩, l.eraseIdx i, hB78.set 5 _, (SgC.rd hok81 (hsg81.mono fun b hb => trivial) (fun b hb => trivial)).c, SmM_erase hS, hdl.symm, upN k78 hh (fun g hg => by omega)⟩
      · have h0 : p.fld ≠ 0 := by simpa using h0
        rw [if_neg h0] at hdl
        obtain ⟨b1, b2, b3, b4, b5, b6, b7, b8⟩ := may_in hmay h0
        have hM71 := hM.fr k71 (fun h => h)
        refine ⟨_, _, _, _, _, _, atsM hM71, _, _, _, _, _, _, patat (hP.fr k71 (fun h => h)), get_spec m p l (hR.fr (f19.trans' k71)) hS (by omega) ho fun w94 g94 => ⟨_, rfl, fun hne => ?_, fun heq => ?_⟩⟩
        · have hne : getP l p ≠ [] := by simpa using hne
          rw [if_neg hne] at hdl
          rintro w97 rfl
          have d97 : Fr Non w71 w94.drew := g94.drew
          have hB97 := hB71.fr d97 (fun h => h)
          have hok97 := hok71.fr d97 (fun _ _ h => h)
          have z97 : w71.heap.size ≤ w94.drew.heap.size := d97.size
          have hsg97 : SgC (fun b => b < w.heap.size) w94.drew xs l := hsg71.kp fun b hb => d97.blk b (by omega) (fun h => h)
          have k97 := k71.trans' d97
          obtain ⟨hnm, z, hz, hZf⟩ := hsg97.2 i hil
          obtain ⟨a, ha, hcz⟩ := hok97.at hz
          obtain ⟨hsp, hFa⟩ := SlOk.spot hok97 ha
          have hc5 : w94.drew.cell? ((⟨b, 0, none⟩ : Addr).add 5) = some (.slice y.base y.len y.cap) := by rw [add_mk]; exact hB97.cell rfl
          have B : (0 : Int) ≤ (i : Int) ∧ (i : Int) < (y.len : Int) := ⟨by omega, by omega⟩
          have hgS : SmG l[i] := hS.2 _ (List.getElem_mem hil)
          obtain ⟨⟨p1, p2⟩, ⟨r1, r2⟩, ⟨c1, c2⟩, ⟨u1, u2⟩⟩ := valid_in b1 (by omega)
          refine ⟨y, hc5, y, hc5, a, ha, B, z, by rw [add_add _ _ _ hsp]; exact hcz, p.seg, p.occ, p.fld, p.rep, p.cmp, p.sub, patat (hP.fr k97 (fun h => h)), ?_⟩
          refine set_spec z p [] l[i].flds hZf (fun b hb => by omega) hgS.2.1 hgS.2.2 (by simp) ⟨p1, by omega⟩ ⟨r1, by omega⟩ ⟨c1, by omega⟩ ⟨u1, by omega⟩ fun u w144 hu g144 => ⟨g144.ext, u, rfl, a, ha, B, ?_⟩
          have z144 := g144.size
          have hB144 := hB97.fr g144 (fun h => h)
          obtain ⟨a', ha', hFa', i1, i2, hok2⟩ := (hok97.fr g144 (fun _ _ h => h)).setv (j := i * 2 + 1) (by omega) (.slice u.base u.len u.cap)
          rw [ha] at ha'; cases ha'
          have hadd : (a.add (((i : Int)).toNat * 2)).add 1 = a.add (i * 2 + 1) := by rw [show ((i : Int)).toNat = i from rfl, add_add _ _ _ hsp]
          rw [hadd]
          refine ⟨i1, i2, ?_⟩
          rintro w148 rfl
          have hblk : (a.add (i * 2 + 1)).block = a.block := block_add _ _
          have hab1 : w19.heap.size ≤ a.block := hFa.1.1
          have hB148 : Blk (w144.setCell (a.add (i * 2 + 1)) (.slice u.base u.len u.cap)) b 26 (mc { m with s := y }) := hB144.ne (by rw [hblk]; exact hFa.2) _
          have k148 : Fr Non w19 (w144.setCell (a.add (i * 2 + 1)) (.slice u.base u.len u.cap)) := (k97.trans' g144).set (a := a.add (i * 2 + 1)) (fun h => by rw [hblk] at h; omega) _
          have hmod : ∀ j (hj : j < (l.modify i (modS p [])).length), (l.modify i (modS p []))[j] = if i = j then modS p [] (l[j]'(by simpa using hj)) else l[j]'(by simpa using hj) := fun j hj => List.getElem_modify _ _ _ _ _
          have hsg2 : SgC (fun _ => True) (w144.setCell (a.add (i * 2 + 1)) (.slice u.base u.len u.cap)) (xs.set (i * 2 + 1) (.slice u.base u.len u.cap)) (l.modify i (modS p [])) := by
            have hsg144 : SgC (fun b => b < w.heap.size) w144 xs l := hsg97.kp fun b hb => g144.blk b (by omega) (fun h => h)
            refine ⟨by simp [hsl], fun j hj => ?_⟩
            have hj' : j < l.length := by simpa using hj
            rw [hmod j hj]
            obtain ⟨e1, z2, e2, e3⟩ := hsg144.2 j hj'
            by_cases hij : i = j
            · subst hij
              rw [if_pos rfl]
              refine ⟨by rw [List.getElem?_set_ne (by omega)]; exact e1, u, by rw [List.getElem?_set_self (by omega)], ?_⟩
              exact (hu.kp RFD.kp (setc_kp (by rw [hblk]; omega))).imp (fun _ _ => trivial) fun _ _ h => RFD.mono h fun _ _ => trivial
            · rw [if_neg hij]
              refine ⟨by rw [List.getElem?_set_ne (by omega)]; exact e1, z2, by rw [List.getElem?_set_ne (by omega)]; exact e2, ?_⟩
              exact (e3.kp RFD.kp (setc_kp (by rw [hblk]; omega))).imp (fun _ _ => trivial) fun _ _ h => RFD.mono h fun _ _ => trivial
          have hrm2 : RMD (fun _ => True) (w144.setCell (a.add (i * 2 + 1)) (.slice u.base u.len u.cap)) y (l.modify i (modS p [])) := SgC.rd hok2 hsg2 (fun b hb => trivial)
          exact ⟨y, l.modify i (modS p []), hB148, hrm2.c, SmM_mod hS (by omega) (by omega) (by omega) (by omega) (by simp), hdl.symm, k148⟩
        · have heq : getP l p = [] := by simpa using heq
          rw [if_pos heq] at hdl
          exact ⟨y, l, hB71.fr g94 (fun h => h), hrm.c.fr (g71.trans' g94), hS, hdl.symm, k71.trans' g94⟩
  · rintro w89 rfl
    have d49 : Fr Non w31 w31.drew := (Fr.refl Non w31).drew
    have k89 := g31.trans' d49
    have z89 : w19.heap.size ≤ w31.drew.heap.size := k89.size
    have hM89 := hM.fr k89 (fun h => h)
    have hD : RMD (fun b => b < w.heap.size) w m.s l := hR.d
    have hD89 : ∀ {w' : World}, Fr Non w w' → RMD (fun b => b < w.heap.size) w' m.s l := fun f => RdLD.kp RGD.kp (fun b hb => f.blk b hb (fun h => h)) hD
    refine ⟨m.d1, m.d2, m.d3, m.d4, m.d5, ats5 hM89, m.s, by rw [add_mk]; exact hM89.cell rfl, ?_, ?_⟩
    · refine cloneM_spec m.s l (hD89 (f19.trans' k89)) hS.1 fun y xs w96 hsg hok g96 => ⟨g96.ext, y, rfl, ?_⟩
      have z96 : w31.drew.heap.size ≤ w96.heap.size := g96.size
      intro b99 w100 hb99 hw100
      have f100 : Fr Non w96 w100 := hw100 ▸ (Fr.refl Non w96).alloc _
      have hO100 : Blk w100 b99 26 (mc mz) := hb99 ▸ hw100 ▸ Blk.new w96 _ _
      refine ⟨mayCells_of hO100 0 6 (by simp [mc, mz]), ?_⟩
      intro w101 hw101
      have hO101 : Blk w101 b99 26 (mc { m with s := y }) := hw101 ▸ hO100.setAll rfl
      have g101 : Fr Non w96 w101 := upN f100 (hw101 ▸ (Fr.refl (fun g => g = b99) w100).setAll hO100 (vs := mc { m with s := y }) rfl (fun _ => rfl)) (fun g hg => by omega)
      have z101 := g101.size
      exact ⟨b99, y, xs, rfl, hO101, by omega, (hok.fr g101 (fun _ _ h => h)).mono fun g hg => ⟨⟨by omega, by omega⟩, by omega⟩, hsg.kp fun b hb => (g96.trans' g101).blk b (by omega) (fun h => h), (k89.trans' g96).trans' g101⟩
    · intro b102 w103 hb102 hw103
      have f103 : Fr Non w31.drew w103 := hw103 ▸ (Fr.refl Non w31.drew).alloc _
      have hO103 : Blk w103 b102 26 (mc mz) := hb102 ▸ hw103 ▸ Blk.new w31.drew _ _
      have l103 := hO103.lt
      have k103 := k89.trans' f103
      refine cloneM_spec m.s l (hD89 (f19.trans' k103)) hS.1 fun y xs w104 hsg hok g104 => ⟨g104.ext, y, rfl, ?_⟩
      have z104 := g104.size
      have z103 := f103.size
      have hO104 := hO103.fr g104 (fun h => h)
      refine ⟨mayCells_of hO104 0 6 (by simp [mc, mz]), ?_⟩
      intro w107 hw107
      have hO107 : Blk w107 b102 26 (mc { m with s := y }) := hw107 ▸ hO104.setAll rfl
      have g107 : Fr (fun g => g = b102) w104 w107 := hw107 ▸ (Fr.refl (fun g => g = b102) w104).setAll hO104 (vs := mc { m with s := y }) rfl (fun _ => rfl)
      have z107 := g107.size
      exact ⟨b102, y, xs, rfl, hO107, by omega, (hok.fr g107 (fun g hg => by omega)).mono fun g hg => ⟨⟨by omega, by omega⟩, by omega⟩, (hsg.kp fun b hb => g104.blk b (by omega) (fun h => h)).kp fun b hb => g107.blk b (by omega) (by omega), upN (k103.trans' g104) g107 (fun g hg => by omega)⟩
end
end Go.Proofs.YtgnddjnnkghedaaGreatDoor
