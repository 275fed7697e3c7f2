/- Rules: slices of slices with a bound on their room; clearing. -/
import Derived.Test.YtgnddjnnkghedaaGreatDoorVQ
set_option linter.unusedSimpArgs false
set_option linter.unusedVariables false
namespace Go.V
open Go.RowKit
section
variable {P : Program} {n : Nat} {sq : Bool} {S : Nat → Prop} {ro : Option Nat} {ops : Array Oper} {rest : OT} {f' : Bool} {N : Post} {ρ : Env} {w : World} {g : Option (Nat × Bool)}
variable {t : TypeId} {p : String} {af : Array Edge} {d : Nat}
/-- A slice of a slice, with a bound. -/
def slS3 (s : Sl) (size : Nat) (i j m : Int) : Sl := ⟨if m.toNat = i.toNat then s.base else s.base.map (·.add (i.toNat * size)), j.toNat - i.toNat, m.toNat - i.toNat⟩
theorem RL.s3 {x lo hi mx : Operand} {xt e : TypeId} {s : Sl} {sz : Nat} {i j m : Int} {ki kj km : IntKind} (hg : wanted n ops ρ ⟨some d, .slice xt x (some lo) (some hi) (some mx), t, p, af, g⟩ = true) (hd : P.underlying xt = some (.slice e)) (hz : Sz P e sz) (hx : ev n ρ x = .slice s.base s.len s.cap) (hlo : ev n ρ lo = .int ki i) (hhi : ev n ρ hi = .int kj j) (hmx : ev n ρ mx = .int km m)
    (h : (0 ≤ i ∧ i ≤ j ∧ j ≤ m ∧ m ≤ s.cap) ∧ RL P n sq S ops N rest (upd ρ d (.slice (slS3 s sz i j m).base (slS3 s sz i j m).len (slS3 s sz i j m).cap)) w) : RL P n sq S ops N (.cons ⟨some d, .slice xt x (some lo) (some hi) (some mx), t, p, af, g⟩ f' rest) ρ w := by
  obtain ⟨⟨h0, hij, hjm, hm⟩, h⟩ := h
  refine RL.yp (v := .slice (slS3 s sz i j m).base (slS3 s sz i j m).len (slS3 s sz i j m).cap) rfl hg (fun u => ?_) h
  have b1 : ∀ (c : BoundsCode) (u : World), (Instr.sliceBound (.int km m) s.cap c).run P u = .ok m.toNat u := fun c u => run_sliceBound (P := P) (by omega) hm u
  have b2 : ∀ (c : BoundsCode) (u : World), (Instr.sliceBound (.int kj j) m.toNat c).run P u = .ok j.toNat u := fun c u => run_sliceBound (P := P) (by omega) (by omega) u
  have b3 : ∀ (c : BoundsCode) (u : World), (Instr.sliceBound (.int ki i) j.toNat c).run P u = .ok i.toNat u := fun c u => run_sliceBound (P := P) (by omega) (by omega) u
  have hb : ∀ u, (Instr.sliceBounds true s.len s.cap (some (.int ki i)) (some (.int kj j)) (some (.int km m))).run P u = .ok (i.toNat, j.toNat, m.toNat) u := fun u => by
    simp [Instr.sliceBounds, b1, b2, b3]
  simp [execOp, hx, hlo, hhi, hmx, Instr.sliceAt, Instr.slice, run_underlying hd, hb, run_sizeOf hz, slS3]
theorem RL.cw {x : Operand} {ts : Array TypeId} {vx : Value} {dd : Option Nat} (hfl : f' = false) (hg : wanted n ops ρ ⟨dd, .call ⟨.builtin .clear, #[x], ts⟩, t, p, af, g⟩ = true) (hx : ev n ρ x = vx)
    (h : ∃ w1, (Builtin.clear_ ts t #[vx]).run P w = .ok (.tuple #[]) w1 ∧ RL P n sq S ops N rest (put ρ dd (.tuple #[])) w1) :
    RL P n sq S ops N (.cons ⟨dd, .call ⟨.builtin .clear, #[x], ts⟩, t, p, af, g⟩ f' rest) ρ w := by
  obtain ⟨w1, hr, h⟩ := h
  refine RL.ef (v := .tuple #[]) (w' := w1) rfl hg ?_ (fun e => by rw [hfl] at e; cases e) h
  simp [execOp, resolve, invoke, builtin, hx, hr]
end
end Go.V
