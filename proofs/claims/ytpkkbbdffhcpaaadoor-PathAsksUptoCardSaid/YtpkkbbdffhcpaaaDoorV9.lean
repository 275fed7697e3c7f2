/- Lent messages, read. -/
import Derived.Test.YtpkkbbdffhcpaaaDoorV8
set_option linter.unusedSimpArgs false
set_option linter.unusedVariables false
namespace Go.V
open Go.RowKit
def mrk : Str := [109, 97, 114, 107]
section
variable {α : Type} {sz : Nat} {w w' : World} {s : Sl} {l : List α}
theorem RdL.imp {R R' : World → Addr → α → Prop} (h : RdL sz R w s l) (hi : ∀ a x, R w a x → R' w a x) : RdL sz R' w s l :=
  ⟨h.1, fun i hi' => let ⟨a, h1, h2⟩ := h.2 i hi'; ⟨a, h1, hi _ _ h2⟩⟩
theorem LRd.imp {R R' : World → Addr → α → Prop} {M : World → Addr → Prop} (h : LRd sz R M w s l) (hi : ∀ a x, R w a x → R' w a x) : LRd sz R' M w s l := ⟨h.1.imp hi, h.2⟩
end
def RLC (w : World) (a : Addr) (c : Cmp) : Prop := ∃ x : Sl, w.cell? a = some (.slice x.base x.len x.cap) ∧ LRd 1 RdStr (fun w a => RdStr w a mrk) w x c
def RLR (w : World) (a : Addr) (c : Rept) : Prop := ∃ x : Sl, w.cell? a = some (.slice x.base x.len x.cap) ∧ LRd 1 RLC (fun w a => RC w a [mrk]) w x c
def RLF (w : World) (a : Addr) (c : Fldt) : Prop := ∃ x : Sl, w.cell? a = some (.slice x.base x.len x.cap) ∧ LRd 1 RLR (fun w a => RR w a [[mrk]]) w x c
def RLG (w : World) (a : Addr) (g : Seg) : Prop := w.cell? a = some (.string (mkS g.name)) ∧ ∃ x : Sl, w.cell? (a.add 1) = some (.slice x.base x.len x.cap) ∧ LRd 1 RLF (fun w a => RF w a [[[mrk]]]) w x g.flds
def RLM (w : World) (s : Sl) (l : List Seg) : Prop := LRd 2 RLG (fun w a => w.cell? a = some (.string (mkS mrk))) w s l
theorem RLC.stay : Stay RLC := fun _ _ _ _ f h => let ⟨x, h1, h2⟩ := h; ⟨x, f.cell h1 (fun h => h), h2.fr RdStr.stay (fun _ _ _ f h => RdStr.stay _ _ _ _ f h) f⟩
theorem RLR.stay : Stay RLR := fun _ _ _ _ f h => let ⟨x, h1, h2⟩ := h; ⟨x, f.cell h1 (fun h => h), h2.fr RLC.stay (fun _ _ _ f h => RC.stay _ _ _ _ f h) f⟩
theorem RLF.stay : Stay RLF := fun _ _ _ _ f h => let ⟨x, h1, h2⟩ := h; ⟨x, f.cell h1 (fun h => h), h2.fr RLR.stay (fun _ _ _ f h => RR.stay _ _ _ _ f h) f⟩
theorem RLG.stay : Stay RLG := fun _ _ _ _ f h => let ⟨h0, x, h1, h2⟩ := h; ⟨f.cell h0 (fun h => h), x, f.cell h1 (fun h => h), h2.fr RLF.stay (fun _ _ _ f h => RF.stay _ _ _ _ f h) f⟩
theorem RLM.fr {w w' : World} {s : Sl} {l : List Seg} (h : RLM w s l) (f : Fr Non w w') : RLM w' s l := LRd.fr RLG.stay (fun _ _ _ f h => f.cell h (fun h => h)) h f
theorem RLC.c {w : World} {a : Addr} {c : Cmp} (h : RLC w a c) : RC w a c := let ⟨x, h1, h2⟩ := h; ⟨x, h1, h2.1⟩
theorem RLR.c {w : World} {a : Addr} {c : Rept} (h : RLR w a c) : RR w a c := let ⟨x, h1, h2⟩ := h; ⟨x, h1, h2.1.imp fun _ _ h => h.c⟩
theorem RLF.c {w : World} {a : Addr} {c : Fldt} (h : RLF w a c) : RF w a c := let ⟨x, h1, h2⟩ := h; ⟨x, h1, h2.1.imp fun _ _ h => h.c⟩
theorem RLG.c {w : World} {a : Addr} {g : Seg} (h : RLG w a g) : RSeg w a g := let ⟨h0, x, h1, h2⟩ := h; ⟨h0, x, h1, h2.1.imp fun _ _ h => h.c⟩
theorem RLM.c {w : World} {s : Sl} {l : List Seg} (h : RLM w s l) : RM w s l := h.1.imp fun _ _ h => h.c
end Go.V
