/- A message that comes in, read; what the bound on its bulk says of it. -/
import Derived.Test.YthpeengmcjpknaaGreatDoorPSR0
import Derived.Test.YthpeengmcjpknaaGreatDoorPM1
import Derived.Test.YthpeengmcjpknaaGreatDoorPVT
set_option maxRecDepth 100000
namespace Go.Proofs.YthpeengmcjpknaaGreatDoor
open Go.ChangeShapes Go.WideShapes Go.ChangeAt Go.ChangeMaps Go.RowKit Go.V
section
variable {H : Type} {enc : TypeId × Value → H} {W : World} {base : Nat} {spare : Nat → Bool} {held : Bool}
theorem bulk_sum {α : Type} (f : α → Nat) (ds : List (DataW H)) (l : List α) (hl : ds.length = l.length) (h : ∀ i (hi : i < l.length), ∃ hd : i < ds.length, f l[i] ≤ Rows.uptoBulk ds[i]) : (l.map f).sum ≤ Rows.uptoBulkAll ds := by
  induction l generalizing ds with
  | nil => simp
  | cons a l ih =>
    match ds, hl with
    | d :: ds, hl =>
      obtain ⟨_, h0⟩ := h 0 (by simp)
      have := ih ds (by simpa using hl) (fun i hi => by
        obtain ⟨_, h1⟩ := h (i + 1) (by simpa using hi)
        exact ⟨by simp at hl; omega, by simpa using h1⟩)
      simp only [Rows.uptoBulkAll, List.map_cons, List.sum_cons]
      simp at h0; omega
theorem rd_slice {α : Type} {E : World → Addr → α → Prop} {f : α → Nat} {t e : TypeId} {sz : Nat} (hu : Tryz.prog.underlying t = some (.slice e)) (hsz : Tryz.prog.cellsOf e = sz) {fuel : Nat} {cs : List Value} {x : DataW H × List MemPlace}
    (h : DataW.trod enc Tryz.prog W base spare held fuel t cs = some x)
    (hE : ∀ (n : Nat) (cs : List Value) (y : DataW H × List MemPlace) (a : Addr), cs.length = sz → (∀ i, i < sz → W.cell? (a.add i) = cs[i]?) → DataW.trod enc Tryz.prog W base spare held n e cs = some y → ∃ v : α, E W a v ∧ f v ≤ Rows.uptoBulk y.1) :
    ∃ (s : Sl) (l : List α), cs = [.slice s.base s.len s.cap] ∧ RdL sz E W s l ∧ bkL f l ≤ Rows.uptoBulk x.1 := by
  rcases DataW.trod_slice hu h with ⟨hcs, hx⟩ | ⟨a, len, cap, elems, rest, n, _, hcs, hx, hb, hl, hm, hlen, hel, _⟩
  · exact ⟨⟨none, 0, 0⟩, [], hcs, RdL.nil, by rw [hx]; simp [bkL, Rows.uptoBulk]⟩
  · have each : ∀ i : Fin len, ∃ v : α, ∃ hi : i.val < elems.length, E W (a.add (i.val * sz)) v ∧ f v ≤ Rows.uptoBulk elems[i.val].1 := by
      intro i
      have h := hel i.val i.isLt
      rw [hsz, List.getElem?_eq_getElem (by omega), Option.bind_eq_some_iff] at h
      obtain ⟨cs, hcs, ht⟩ := h
      obtain ⟨_, hclen, hcell⟩ := World.cells?_some hcs
      obtain ⟨v, h1, h2⟩ := hE n cs _ (a.add (i.val * sz)) hclen hcell ht
      exact ⟨v, by omega, h1, h2⟩
    refine ⟨⟨some a, len, cap⟩, List.ofFn fun i => (each i).choose, hcs, ⟨by simp, fun i hi => ⟨a, rfl, ?_⟩⟩, ?_⟩
    · have hi2 : i < len := by simpa using hi
      obtain ⟨_, h1, _⟩ := (each ⟨i, hi2⟩).choose_spec
      simpa using h1
    · rw [hx]
      have := bulk_sum f (elems.map (·.1)) (List.ofFn fun i => (each i).choose) (by simp [hlen]) (fun i hi => by
        have hi2 : i < len := by simpa using hi
        obtain ⟨h0, _, h2⟩ := (each ⟨i, hi2⟩).choose_spec
        exact ⟨by simpa using h0, by simpa using h2⟩)
      simp only [bkL, Rows.uptoBulk]; omega
theorem uC : Tryz.prog.underlying 80 = some (.slice 9) := by kernel_rfl
theorem uR : Tryz.prog.underlying 38 = some (.slice 80) := by kernel_rfl
theorem uF : Tryz.prog.underlying 44 = some (.slice 38) := by kernel_rfl
theorem uFs : Tryz.prog.underlying 45 = some (.slice 44) := by kernel_rfl
theorem uGs : Tryz.prog.underlying 24 = some (.slice 79) := by kernel_rfl
theorem uG : Tryz.prog.underlying 79 = some (.struct #[⟨ "Name", 9, 0, false, "", "", 0⟩, ⟨ "Fields", 45, 1, false, "", "", 16⟩]) := by kernel_rfl
theorem uM : Tryz.prog.underlying 26 = some (.struct #[⟨ "Delims", 23, 0, false, "", "", 0⟩, ⟨ "Segments", 24, 5, false, "", "", 8⟩]) := by kernel_rfl
theorem uD : Tryz.prog.underlying 23 = some (.struct #[⟨ "Field", 5, 0, false, "", "", 0⟩, ⟨ "Comp", 5, 1, false, "", "", 1⟩, ⟨ "Rep", 5, 2, false, "", "", 2⟩, ⟨ "Esc", 5, 3, false, "", "", 3⟩, ⟨ "Sub", 5, 4, false, "", "", 4⟩]) := by kernel_rfl
theorem rU8 : Tryz.prog.underlying 5 = some (.int .u8) := by kernel_rfl
theorem cC : Tryz.prog.cellsOf 80 = 1 := by kernel_rfl
theorem cR : Tryz.prog.cellsOf 38 = 1 := by kernel_rfl
theorem cF : Tryz.prog.cellsOf 44 = 1 := by kernel_rfl
theorem cFs : Tryz.prog.cellsOf 45 = 1 := by kernel_rfl
theorem cGs : Tryz.prog.cellsOf 24 = 1 := by kernel_rfl
theorem cG : Tryz.prog.cellsOf 79 = 2 := by kernel_rfl
theorem cM : Tryz.prog.cellsOf 26 = 6 := by kernel_rfl
theorem cD : Tryz.prog.cellsOf 23 = 5 := by kernel_rfl
theorem cU8 : Tryz.prog.cellsOf 5 = 1 := by kernel_rfl
theorem one_cell {α : Type} {E : World → Addr → α → Prop} {sz : Nat} {cs : List Value} {a : Addr} {s : Sl} {l : List α} (hc : ∀ i, i < 1 → W.cell? (a.add i) = cs[i]?) (hs : cs = [.slice s.base s.len s.cap]) (hr : RdL sz E W s l) : RdSl sz E W a l :=
  ⟨s, by have := hc 0 (by omega); rw [hs] at this; exact this, hr⟩
theorem rd_str (n : Nat) (cs : List Value) (y : DataW H × List MemPlace) (a : Addr) (_ : cs.length = 1) (hc : ∀ i, i < 1 → W.cell? (a.add i) = cs[i]?) (h : DataW.trod enc Tryz.prog W base spare held n 9 cs = some y) : ∃ v : Str, RdStr W a v ∧ bkS v ≤ Rows.uptoBulk y.1 := by
  obtain ⟨s, rfl, rfl, _⟩ := DataW.trod_string rU9 h
  exact ⟨s.data.toList, by have := hc 0 (by omega); unfold RdStr; rw [mkS_toList]; exact this, by simp [bkS, Rows.uptoBulk]⟩
theorem rd_C (n : Nat) (cs : List Value) (y : DataW H × List MemPlace) (a : Addr) (_ : cs.length = 1) (hc : ∀ i, i < 1 → W.cell? (a.add i) = cs[i]?) (h : DataW.trod enc Tryz.prog W base spare held n 80 cs = some y) : ∃ v : Cmp, RC W a v ∧ bkC v ≤ Rows.uptoBulk y.1 := by
  obtain ⟨s, l, hs, hr, hb⟩ := rd_slice uC cells9 h rd_str
  exact ⟨l, one_cell hc hs hr, hb⟩
theorem rd_R (n : Nat) (cs : List Value) (y : DataW H × List MemPlace) (a : Addr) (_ : cs.length = 1) (hc : ∀ i, i < 1 → W.cell? (a.add i) = cs[i]?) (h : DataW.trod enc Tryz.prog W base spare held n 38 cs = some y) : ∃ v : Rept, RR W a v ∧ bkR v ≤ Rows.uptoBulk y.1 := by
  obtain ⟨s, l, hs, hr, hb⟩ := rd_slice uR cC h rd_C
  exact ⟨l, one_cell hc hs hr, hb⟩
theorem rd_F (n : Nat) (cs : List Value) (y : DataW H × List MemPlace) (a : Addr) (_ : cs.length = 1) (hc : ∀ i, i < 1 → W.cell? (a.add i) = cs[i]?) (h : DataW.trod enc Tryz.prog W base spare held n 44 cs = some y) : ∃ v : Fldt, RF W a v ∧ bkF v ≤ Rows.uptoBulk y.1 := by
  obtain ⟨s, l, hs, hr, hb⟩ := rd_slice uF cR h rd_R
  exact ⟨l, one_cell hc hs hr, hb⟩
theorem rd_G (n : Nat) (cs : List Value) (y : DataW H × List MemPlace) (a : Addr) (hl : cs.length = 2) (hc : ∀ i, i < 2 → W.cell? (a.add i) = cs[i]?) (h : DataW.trod enc Tryz.prog W base spare held n 79 cs = some y) : ∃ v : Seg, RSeg W a v ∧ bkG v ≤ Rows.uptoBulk y.1 := by
  obtain ⟨xs, n, _, hx, _, hlen, hel⟩ := DataW.trod_struct uG h
  have e0 : DataW.trod enc Tryz.prog W base spare held n 9 ((cs.drop 0).take (Tryz.prog.cellsOf 9)) = xs[0]? := hel 0 _ rfl
  have e1 : DataW.trod enc Tryz.prog W base spare held n 45 ((cs.drop 1).take (Tryz.prog.cellsOf 45)) = xs[1]? := hel 1 _ rfl
  have hlen : xs.length = 2 := hlen
  match cs, hl, xs, hlen with
  | [c0, c1], _, [y0, y1], _ =>
    simp only [cells9, cFs] at e0 e1
    obtain ⟨s, g0, r0, _⟩ := DataW.trod_string rU9 e0
    obtain ⟨x, l, hs, hr, hb⟩ := rd_slice uFs cF (x := y1) (by simpa using e1) rd_F
    simp at g0 hs
    subst g0 hs
    refine ⟨⟨s.data.toList, l⟩, ⟨by have := hc 0 (by omega); rw [mkS_toList]; exact this, x, by have := hc 1 (by omega); exact this, hr⟩, ?_⟩
    rw [hx, r0]
    simp only [bkG, bkS, List.map_cons, List.map_nil, Rows.uptoBulk, Rows.uptoBulkAll]; omega
theorem open_msg {b0 : Nat} {v : Value} {d : DataW H} {p : List MemPlace} (hv : Value.okWide Tryz.prog W .any b0 26 v) (h : DataW.Trod enc Tryz.prog W base spare held 26 v d p) :
    ∃ (m : Mh) (l : List Seg), v = .agg (List.toArray (mc m)) ∧ RM W m.s l ∧ bkM l ≤ Rows.uptoBulk d ∧ (∀ d ∈ [m.d1, m.d2, m.d3, m.d4, m.d5], 0 ≤ d ∧ d ≤ 255) := by
  obtain ⟨cs, rfl, hsz⟩ := okWide_struct uM hv
  obtain ⟨fuel, hf⟩ := h
  obtain ⟨xs, n, _, hx, hl, hlen, hel⟩ := DataW.trod_struct uM hf
  rw [cM] at hsz
  obtain ⟨cs⟩ := cs
  have hlen : xs.length = 2 := hlen
  have e0 : DataW.trod enc Tryz.prog W base spare held n 23 (((Value.agg ⟨cs⟩).cells.toList.drop 0).take (Tryz.prog.cellsOf 23)) = xs[0]? := hel 0 _ rfl
  have e1 : DataW.trod enc Tryz.prog W base spare held n 24 (((Value.agg ⟨cs⟩).cells.toList.drop 5).take (Tryz.prog.cellsOf 24)) = xs[1]? := hel 1 _ rfl
  match cs, hsz, xs, hlen with
  | [c0, c1, c2, c3, c4, c5], _, [y0, y1], _ =>
    simp only [Value.cells, cD, cGs] at e0 e1
    obtain ⟨s, l, hs, hr, hb⟩ := rd_slice uGs cG (x := y1) (by simpa using e1) rd_G
    have e0 : DataW.trod enc Tryz.prog W base spare held n 23 [c0, c1, c2, c3, c4] = some y0 := by simpa using e0
    obtain ⟨zs, n2, _, hz, _, hlen2, hel2⟩ := DataW.trod_struct uD e0
    have q0 : DataW.trod enc Tryz.prog W base spare held n2 5 (([c0, c1, c2, c3, c4].drop 0).take (Tryz.prog.cellsOf 5)) = zs[0]? := hel2 0 _ rfl
    have q1 : DataW.trod enc Tryz.prog W base spare held n2 5 (([c0, c1, c2, c3, c4].drop 1).take (Tryz.prog.cellsOf 5)) = zs[1]? := hel2 1 _ rfl
    have q2 : DataW.trod enc Tryz.prog W base spare held n2 5 (([c0, c1, c2, c3, c4].drop 2).take (Tryz.prog.cellsOf 5)) = zs[2]? := hel2 2 _ rfl
    have q3 : DataW.trod enc Tryz.prog W base spare held n2 5 (([c0, c1, c2, c3, c4].drop 3).take (Tryz.prog.cellsOf 5)) = zs[3]? := hel2 3 _ rfl
    have q4 : DataW.trod enc Tryz.prog W base spare held n2 5 (([c0, c1, c2, c3, c4].drop 4).take (Tryz.prog.cellsOf 5)) = zs[4]? := hel2 4 _ rfl
    have hlen2 : zs.length = 5 := hlen2
    rw [cU8] at q0 q1 q2 q3 q4
    match zs, hlen2 with
    | [z0, z1, z2, z3, z4], _ =>
      obtain ⟨n0, g0, _, wf0⟩ := DataW.trod_int rU8 q0
      obtain ⟨n1, g1, _, wf1⟩ := DataW.trod_int rU8 q1
      obtain ⟨n2, g2, _, wf2⟩ := DataW.trod_int rU8 q2
      obtain ⟨n3, g3, _, wf3⟩ := DataW.trod_int rU8 q3
      obtain ⟨n4, g4, _, wf4⟩ := DataW.trod_int rU8 q4
      simp at g0 g1 g2 g3 g4 hs
      subst g0 g1 g2 g3 g4 hs
      refine ⟨⟨n0, n1, n2, n3, n4, s⟩, l, rfl, hr, ?_, ?_⟩
      · have hd := (Prod.mk.inj hx).1
        rw [hd]
        simp only [List.map_cons, List.map_nil, Rows.uptoBulk, Rows.uptoBulkAll]
        show bkL bkG l ≤ _
        omega
      have rng : ∀ {n : Int}, (Lit.int .u8 n).wf = true → 0 ≤ n ∧ n ≤ 255 := fun h => by simpa [Lit.wf, show IntKind.u8.min = 0 from rfl, show IntKind.u8.max = 255 from rfl] using h
      intro d hd
      simp at hd
      rcases hd with rfl | rfl | rfl | rfl | rfl
      · exact rng wf0
      · exact rng wf1
      · exact rng wf2
      · exact rng wf3
      · exact rng wf4
end
end Go.Proofs.YthpeengmcjpknaaGreatDoor
