/- What the rows share: arguments read again, a path opened, the listed variables' world. -/
import Derived.Test.YtoaoofobidhfjaaGreatDoorQSQ
import Derived.Test.YtoaoofobidhfjaaGreatDoorCards
import Derived.Test.YtoaoofobidhfjaaGreatDoorTie
import Derived.ProofKit
import Derived.OpenShut
import Derived.Lay
import Derived.SizedLaws
import Derived.SevenTiedAt
import Derived.Deep.DeepHandedRow
import Derived.Stop.Joined
namespace Go.Proofs.YtoaoofobidhfjaaGreatDoor
open Go.ChangeShapes Go.WideShapes Go.ChangeAt Go.ChangeMaps Go.RowKit Go.V
theorem Tryz.own : ownKnob Tryz.prog.godebug = none := by kernel_rfl
theorem Tryz.laidOut : laidOutB Tryz.prog = true := by kernel_rfl
theorem rU3 : Tryz.prog.underlying 3 = some (.int .i64) := by kernel_rfl
theorem rU9 : Tryz.prog.underlying 9 = some .string := by kernel_rfl
theorem rUP : Tryz.prog.underlying 59 = some (.struct #[⟨ "Segment", 9, 0, false, "", "", 0⟩, ⟨ "Occ", 3, 1, false, "", "", 16⟩, ⟨ "Field", 3, 2, false, "", "", 24⟩, ⟨ "Rep", 3, 3, false, "", "", 32⟩, ⟨ "Comp", 3, 4, false, "", "", 40⟩, ⟨ "Sub", 3, 5, false, "", "", 48⟩]) := by kernel_rfl
theorem args_stay {H : Type} {enc : TypeId × Value → H} {P : Program} (hl : laidOutB P = true) {W W' : World} (hb : Below W.heap.size W W') :
    ∀ {ts : List TypeId} {vs : List Value} {ds : List (DataW H)} {ps : List MemPlace}, ts.all (fun t => P.readableRec t && decide (t < P.types.size)) = true → (∀ x ∈ ps, x.block < W.heap.size) →
      DataW.TrodAll enc P W 0 (fun _ => true) true ts vs ds ps → DataW.TrodAll enc P W' 0 (fun b => decide (b < W.heap.size)) true ts vs ds ps
  | [], [], [], _, _, _, h => h
  | t :: ts, v :: vs, d :: ds, ps, ht, hp, h => by
    obtain ⟨p, q, h1, h2, rfl⟩ := h
    simp only [List.all_cons, Bool.and_eq_true, decide_eq_true_eq] at ht
    exact ⟨p, q, Below.trod hl ht.1.1 ht.1.2 h1 hb (fun x hx => hp x (List.mem_append_left _ hx)), args_stay hl hb (by simpa using ht.2) (fun x hx => hp x (List.mem_append_right _ hx)) h2, rfl⟩
  | [], _ :: _, _, _, _, _, h => by cases h
  | [], [], _ :: _, _, _, _, h => by cases h
  | _ :: _, [], _, _, _, _, h => by cases h
  | _ :: _, _ :: _, [], _, _, _, h => by cases h
section
variable {H : Type} {enc : TypeId × Value → H} {W : World} {base : Nat} {spare : Nat → Bool} {held : Bool}
theorem cells9 : Tryz.prog.cellsOf 9 = 1 := by kernel_rfl
theorem cells3 : Tryz.prog.cellsOf 3 = 1 := by kernel_rfl
theorem cellsP : Tryz.prog.cellsOf 59 = 6 := by kernel_rfl
set_option maxRecDepth 100000 in
/-- A path's value, opened. -/
theorem open_path {b0 : Nat} {v : Value} {d : DataW H} {p : List MemPlace} (hv : Value.okWide Tryz.prog W .any b0 59 v) (h : DataW.Trod enc Tryz.prog W base spare held 59 v d p) :
    ∃ pa : Pa, v = .agg (List.toArray (pc pa)) ∧ d = .agg [.lit (.string pa.seg), .lit (.int .i64 pa.occ), .lit (.int .i64 pa.fld), .lit (.int .i64 pa.rep), .lit (.int .i64 pa.cmp), .lit (.int .i64 pa.sub)] ∧ (-9223372036854775808 ≤ pa.occ ∧ pa.occ ≤ 9223372036854775807) := by
  obtain ⟨cs, rfl, hsz⟩ := okWide_struct rUP hv
  obtain ⟨fuel, hf⟩ := h
  obtain ⟨xs, n, _, hx, hl, hlen, hel⟩ := DataW.trod_struct rUP hf
  rw [cellsP] at hsz
  obtain ⟨cs⟩ := cs
  have hlen : xs.length = 6 := hlen
  have e0 : DataW.trod enc Tryz.prog W base spare held n 9 (((Value.agg ⟨cs⟩).cells.toList.drop 0).take (Tryz.prog.cellsOf 9)) = xs[0]? := hel 0 _ rfl
  have e1 : DataW.trod enc Tryz.prog W base spare held n 3 (((Value.agg ⟨cs⟩).cells.toList.drop 1).take (Tryz.prog.cellsOf 3)) = xs[1]? := hel 1 _ rfl
  have e2 : DataW.trod enc Tryz.prog W base spare held n 3 (((Value.agg ⟨cs⟩).cells.toList.drop 2).take (Tryz.prog.cellsOf 3)) = xs[2]? := hel 2 _ rfl
  have e3 : DataW.trod enc Tryz.prog W base spare held n 3 (((Value.agg ⟨cs⟩).cells.toList.drop 3).take (Tryz.prog.cellsOf 3)) = xs[3]? := hel 3 _ rfl
  have e4 : DataW.trod enc Tryz.prog W base spare held n 3 (((Value.agg ⟨cs⟩).cells.toList.drop 4).take (Tryz.prog.cellsOf 3)) = xs[4]? := hel 4 _ rfl
  have e5 : DataW.trod enc Tryz.prog W base spare held n 3 (((Value.agg ⟨cs⟩).cells.toList.drop 5).take (Tryz.prog.cellsOf 3)) = xs[5]? := hel 5 _ rfl
  match cs, hsz, xs, hlen with
  | [c0, c1, c2, c3, c4, c5], _, [y0, y1, y2, y3, y4, y5], _ =>
    simp only [Value.cells, cells9, cells3] at e0 e1 e2 e3 e4 e5
    obtain ⟨s, g0, r0, _⟩ := DataW.trod_string rU9 e0
    obtain ⟨n1, g1, r1, wf1⟩ := DataW.trod_int rU3 e1
    obtain ⟨n2, g2, r2, _⟩ := DataW.trod_int rU3 e2
    obtain ⟨n3, g3, r3, _⟩ := DataW.trod_int rU3 e3
    obtain ⟨n4, g4, r4, _⟩ := DataW.trod_int rU3 e4
    obtain ⟨n5, g5, r5, _⟩ := DataW.trod_int rU3 e5
    simp at g0 g1 g2 g3 g4 g5
    subst g0 g1 g2 g3 g4 g5
    simp only [Prod.mk.injEq] at hx
    refine ⟨⟨s.data.toList, n1, n2, n3, n4, n5⟩, by simp [pc, mkS_toList], ?_, by simpa [Lit.wf, show IntKind.i64.min = -9223372036854775808 from rfl] using wf1⟩
    rw [hx.1]; simp [r0, r1, r2, r3, r4, r5]
end
end Go.Proofs.YtoaoofobidhfjaaGreatDoor
