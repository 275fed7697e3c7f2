/- Lists and trees in memory that are read alone. -/
import Derived.Test.YtpkkbbdffhcpaaaDoorV4
set_option linter.unusedSimpArgs false
set_option linter.unusedVariables false
namespace Go.V
open Go.RowKit

theorem cell_lt {w : World} {a : Addr} {v : Value} (h : w.cell? a = some v) : a.block < w.heap.size := by
  unfold World.cell? at h
  cases hb : w.heap[a.block]? with
  | none => rw [hb] at h; cases h
  | some o => exact (Array.getElem?_eq_some_iff.1 hb).1
theorem Fr.cell {F : Nat → Prop} {w w1 : World} (h : Fr F w w1) {a : Addr} {v : Value} (hc : w.cell? a = some v) (hF : ¬ F a.block) : w1.cell? a = some v := by
  have := h.blk a.block (cell_lt hc) hF
  unfold World.cell? at *
  rw [this]; exact hc
/-- A list: its length, and each element at its place. -/
def RdL {α : Type} (sz : Nat) (E : World → Addr → α → Prop) (w : World) (s : Sl) (l : List α) : Prop :=
  s.len = l.length ∧ ∀ i (h : i < l.length), ∃ a, s.base = some a ∧ E w (a.add (i * sz)) l[i]
def RdStr (w : World) (a : Addr) (s : Str) : Prop := w.cell? a = some (.string (mkS s))
/-- A cell that holds a slice of such a list. -/
def RdSl {α : Type} (sz : Nat) (E : World → Addr → α → Prop) (w : World) (a : Addr) (l : List α) : Prop :=
  ∃ x : Sl, w.cell? a = some (.slice x.base x.len x.cap) ∧ RdL sz E w x l
/-- What holds still where memory grows. -/
def Stay {α : Type} (E : World → Addr → α → Prop) : Prop := ∀ (w w' : World) (a : Addr) (x : α), Fr Non w w' → E w a x → E w' a x
theorem RdStr.stay : Stay RdStr := fun _ _ _ _ f h => f.cell h (fun h => h)
theorem RdL.fr {α : Type} {sz : Nat} {E : World → Addr → α → Prop} (hE : Stay E) {w w' : World} {s : Sl} {l : List α} (h : RdL sz E w s l) (f : Fr Non w w') : RdL sz E w' s l :=
  ⟨h.1, fun i hi => by obtain ⟨a, h1, h2⟩ := h.2 i hi; exact ⟨a, h1, hE _ _ _ _ f h2⟩⟩
theorem RdSl.stay {α : Type} {sz : Nat} {E : World → Addr → α → Prop} (hE : Stay E) : Stay (RdSl sz E) := fun _ _ _ _ f h => by
  obtain ⟨x, h1, h2⟩ := h
  exact ⟨x, f.cell h1 (fun h => h), h2.fr hE f⟩
theorem RdL.at {α : Type} {sz : Nat} {E : World → Addr → α → Prop} {w : World} {s : Sl} {l : List α} (h : RdL sz E w s l) {i : Nat} (hi : i < l.length) : ∃ a, s.base = some a ∧ E w (a.add (i * sz)) l[i] := h.2 i hi
theorem RdL.nil {α : Type} {sz : Nat} {E : World → Addr → α → Prop} {w : World} {b : Option Addr} {c : Nat} : RdL sz E w ⟨b, 0, c⟩ ([] : List α) := ⟨rfl, fun i h => by simp at h⟩

/-! ### Messages -/
abbrev Cmp := List Str
abbrev Rept := List Cmp
abbrev Fldt := List Rept
structure Seg where
  name : Str
  flds : List Fldt
def RC : World → Addr → Cmp → Prop := RdSl 1 RdStr
def RR : World → Addr → Rept → Prop := RdSl 1 RC
def RF : World → Addr → Fldt → Prop := RdSl 1 RR
def RSeg (w : World) (a : Addr) (g : Seg) : Prop := w.cell? a = some (.string (mkS g.name)) ∧ ∃ x : Sl, w.cell? (a.add 1) = some (.slice x.base x.len x.cap) ∧ RdL 1 RF w x g.flds
def RM : World → Sl → List Seg → Prop := RdL 2 RSeg
theorem RC.stay : Stay RC := RdSl.stay RdStr.stay
theorem RR.stay : Stay RR := RdSl.stay RC.stay
theorem RF.stay : Stay RF := RdSl.stay RR.stay
theorem block_add (a : Addr) (i : Nat) : (a.add i).block = a.block := by unfold Addr.add; split <;> rfl
theorem RSeg.stay : Stay RSeg := fun _ _ _ _ f h => by
  obtain ⟨h1, x, h2, h3⟩ := h
  exact ⟨f.cell h1 (fun h => h), x, f.cell h2 (fun h => h), h3.fr RF.stay f⟩
theorem RM.fr {w w' : World} {s : Sl} {l : List Seg} (h : RM w s l) (f : Fr Non w w') : RM w' s l := RdL.fr RSeg.stay h f
/-! ### Small ones -/
def BB : Nat := 1099511627776
def SmC (c : Cmp) : Prop := c.length ≤ BB ∧ ∀ u ∈ c, u.length ≤ BB
def SmR (r : Rept) : Prop := r.length ≤ BB ∧ ∀ c ∈ r, SmC c
def SmF (f : Fldt) : Prop := f.length ≤ BB ∧ ∀ r ∈ f, SmR r
def SmG (g : Seg) : Prop := g.name.length ≤ BB ∧ g.flds.length ≤ BB ∧ ∀ f ∈ g.flds, SmF f
def SmM (l : List Seg) : Prop := l.length ≤ BB ∧ ∀ g ∈ l, SmG g
/-- The cells of a message's value. -/
def mcs (d : List Value) (s : Sl) : List Value := d ++ [.slice s.base s.len s.cap]
end Go.V
