/- The engine's rules, an operation each. -/
import Derived.Test.YtpkkbbdffhcpaaaDoorV1
import Derived.RangeFuncRecord
set_option linter.unusedSimpArgs false
set_option linter.unusedVariables false
namespace Go.V
abbrev Str := List UInt8
def mkS (l : Str) : ByteArray := ⟨l.toArray⟩
structure Sl where
  base : Option Addr
  len : Nat
  cap : Nat
abbrev w64 (n : Int) : Int := IntKind.i64.wrap n
theorem mkS_toList (s : ByteArray) : mkS s.data.toList = s := by cases s; simp [mkS]
@[simp] theorem size_mkS (l : Str) : (mkS l).size = l.length := by simp [mkS, ByteArray.size]
@[simp] theorem data_mkS (l : Str) : (mkS l).data.toList = l := by simp [mkS]
theorem mkS_inj {a b : Str} (h : mkS a = mkS b) : a = b := by have := congrArg (fun x => x.data.toList) h; simpa using this
theorem mkS_append (a b : Str) : mkS a ++ mkS b = mkS (a ++ b) := by
  apply ByteArray.ext
  simp [mkS]
theorem toList_mkS (l : Str) : (mkS l).toList = l := by
  have := ByteArray.toList_eq (mkS l)
  simpa using this

/-! ### Facts on the program's types -/
def Sz (P : Program) (t : TypeId) (s : Nat) : Prop := (P.info? t).map (·.size) = some s
def Zr (P : Program) (t : TypeId) (v : Value) : Prop := (P.info? t).bind (·.zero) = some v
def aggD : TypeDesc → Bool
  | .struct _ | .array _ _ => true
  | _ => false
/-- A type whose values take one cell. -/
def One (P : Program) (t : TypeId) : Prop := (P.underlying t).map aggD = some false ∧ Sz P t 1
def Agg (P : Program) (t : TypeId) (s : Nat) : Prop := (P.underlying t).map aggD = some true ∧ Sz P t s
def fldOf (f : Nat) : Option TypeDesc → Option (Nat × TypeId)
  | some (.struct fs) => (fs[f]?).map fun fd => (fd.offset, fd.type)
  | _ => none
def Fld (P : Program) (s : TypeId) (f off : Nat) (t : TypeId) (z : Nat) : Prop := fldOf f (P.underlying s) = some (off, t) ∧ Sz P t (z + 1)
def IsFn (P : Program) (f : FuncId) : Prop := (P.funcs[f]?).map (fun fn => (fn.name == "runtime.NumGoroutine", fn.body.isNone)) = some (false, false)

theorem Sz.mk {P : Program} {t : TypeId} {s : Nat} (h : (P.info? t).map (·.size) = some s) : Sz P t s := h
theorem Zr.mk {P : Program} {t : TypeId} {v : Value} (h : (P.info? t).bind (·.zero) = some v) : Zr P t v := h
theorem IsFn.mk {P : Program} {f : FuncId} (h : (P.funcs[f]?).map (fun fn => (fn.name == "runtime.NumGoroutine", fn.body.isNone)) = some (false, false)) : IsFn P f := h
section
variable {P : Program} {n : Nat} {sq : Bool} {S : Nat → Prop} {ro : Option Nat} {ops : Array Oper} {rest : OT} {f' : Bool} {N : Post} {ρ : Env} {w : World} {g : Option (Nat × Bool)}
variable {t : TypeId} {p : String} {af : Array Edge} {d : Nat}

theorem run_sizeOf {t : TypeId} {s : Nat} (h : Sz P t s) (w : World) : (sizeOf t).run P w = .ok s w := by
  unfold Sz at h; obtain ⟨i, hi, rfl⟩ := Option.map_eq_some_iff.1 h; simp [sizeOf, typeInfo, hi]
theorem run_zeroValue {t : TypeId} {v : Value} (h : Zr P t v) (w : World) : (zeroValue t).run P w = .ok v w := by
  unfold Zr at h; obtain ⟨i, hi, h2⟩ := Option.bind_eq_some_iff.1 h; simp [zeroValue, typeInfo, hi, h2]
theorem run_isAgg_one {t : TypeId} (h : One P t) (w : World) : (isAgg t).run P w = .ok false w := by
  obtain ⟨d, h, h2⟩ := Option.map_eq_some_iff.1 h.1; simp only [isAgg, Sem.run_bind, run_underlying h, Result.andThen_ok]; cases d <;> first | rfl | exact (Bool.noConfusion h2)
theorem run_isAgg_agg {t : TypeId} {s : Nat} (h : Agg P t s) (w : World) : (isAgg t).run P w = .ok true w := by
  obtain ⟨d, h, h2⟩ := Option.map_eq_some_iff.1 h.1; simp only [isAgg, Sem.run_bind, run_underlying h, Result.andThen_ok]; cases d <;> first | rfl | exact (Bool.noConfusion h2)

theorem RL.mv {x : Operand} (hg : wanted n ops ρ ⟨some d, .move x, t, p, af, g⟩ = true) (v : Value) (hx : ev n ρ x = v) (h : RL P n sq S ops N rest (upd ρ d v) w) : RL P n sq S ops N (.cons ⟨some d, .move x, t, p, af, g⟩ f' rest) ρ w :=
  RL.yp (v := v) rfl hg (fun u => by subst hx; rfl) h
theorem RL.as {x : Operand} (hg : wanted n ops ρ ⟨some d, .assign x, t, p, af, g⟩ = true) (v : Value) (hx : ev n ρ x = v) (h : RL P n sq S ops N rest (upd ρ d v) w) : RL P n sq S ops N (.cons ⟨some d, .assign x, t, p, af, g⟩ f' rest) ρ w :=
  RL.yp (v := v) rfl hg (fun u => by subst hx; rfl) h
theorem RL.pk {c x y : Operand} {b b1 b2 : Bool} (hg : wanted n ops ρ ⟨some d, .pick c x y, t, p, af, g⟩ = true) (hc : ev n ρ c = .bool b) (hx : ev n ρ x = .bool b1) (hy : ev n ρ y = .bool b2)
    (h : RL P n sq S ops N rest (upd ρ d (.bool (bif b then b1 else b2))) w) : RL P n sq S ops N (.cons ⟨some d, .pick c x y, t, p, af, g⟩ f' rest) ρ w :=
  RL.yp (v := .bool (bif b then b1 else b2)) rfl hg (fun u => by simp only [execOp, hc, hx, hy]; cases b <;> rfl) h
/-- A pick whose test is known. -/
theorem RL.pt {c x y : Operand} (hg : wanted n ops ρ ⟨some d, .pick c x y, t, p, af, g⟩ = true) (v : Value) (hc : ev n ρ c = .bool true) (hx : ev n ρ x = v)
    (h : RL P n sq S ops N rest (upd ρ d v) w) : RL P n sq S ops N (.cons ⟨some d, .pick c x y, t, p, af, g⟩ f' rest) ρ w :=
  RL.yp (v := v) rfl hg (fun u => by simp only [execOp, hc, hx]; rfl) h
theorem RL.pf {c x y : Operand} (hg : wanted n ops ρ ⟨some d, .pick c x y, t, p, af, g⟩ = true) (v : Value) (hc : ev n ρ c = .bool false) (hy : ev n ρ y = v)
    (h : RL P n sq S ops N rest (upd ρ d v) w) : RL P n sq S ops N (.cons ⟨some d, .pick c x y, t, p, af, g⟩ f' rest) ρ w :=
  RL.yp (v := v) rfl hg (fun u => by simp only [execOp, hc, hy]; rfl) h
theorem RL.nc {x : Operand} {a : Addr} (hg : wanted n ops ρ ⟨some d, .nilCheck x, t, p, af, g⟩ = true) (hx : ev n ρ x = .pointer (some a)) (h : RL P n sq S ops N rest (upd ρ d (.pointer (some a))) w) :
    RL P n sq S ops N (.cons ⟨some d, .nilCheck x, t, p, af, g⟩ f' rest) ρ w :=
  RL.yp (v := .pointer (some a)) rfl hg (fun u => by simp only [execOp, hx]; rfl) h
theorem RL.fa {s : TypeId} {x : Operand} {f : Nat} {a : Addr} {off : Nat} {ft : TypeId} {z : Nat} (hg : wanted n ops ρ ⟨some d, .fieldAddr s x f, t, p, af, g⟩ = true) (hf : Fld P s f off ft z) (hx : ev n ρ x = .pointer (some a))
    (h : RL P n sq S ops N rest (upd ρ d (.pointer (some (a.add off)))) w) : RL P n sq S ops N (.cons ⟨some d, .fieldAddr s x f, t, p, af, g⟩ f' rest) ρ w := by
  obtain ⟨hf, h5⟩ := hf
  unfold fldOf at hf
  split at hf
  case h_2 => cases hf
  case h_1 fs h1 =>
  obtain ⟨fd, h2, h3⟩ := Option.map_eq_some_iff.1 hf
  obtain ⟨rfl, rfl⟩ := Prod.mk.inj h3
  refine RL.yp (v := .pointer (some (a.add fd.offset))) rfl hg (fun u => ?_) h
  simp [execOp, hx, Instr.fieldAt, run_underlying h1, h2, Instr.sureAddr, fieldPlace, run_sizeOf h5]
theorem RL.ld {x : Operand} {a : Addr} {ty : TypeId} (hg : wanted n ops ρ ⟨some d, .load ty x, t, p, af, g⟩ = true) (v : Value) (ht : One P ty) (hx : ev n ρ x = .pointer (some a)) (hc : w.cell? a = some v)
    (h : RL P n sq N0 ops N rest (upd ρ d v) w) : RL P n sq N0 ops N (.cons ⟨some d, .load ty x, t, p, af, g⟩ f' rest) ρ w := by
  refine RL.yl (v := v) rfl hg (fun u hu => ?_) h
  simp only [execOp, hx, Instr.loadAt, Instr.sureAddr, loadVar, Sem.run_bind, Sem.run_pure, Result.andThen_ok, run_isAgg_one ht, Bool.false_eq_true, if_false]
  have : (load a).run P u = .ok v u := by simp only [load, Sem.run, hu.e.cell hc]
  rw [this]; rfl
theorem RL.lds {x : Operand} {a : Addr} {ty : TypeId} (hg : wanted n ops ρ ⟨some d, .load ty x, t, p, af, g⟩ = true) (v : Value) (ht : One P ty) (hx : ev n ρ x = .pointer (some a)) (hS : ¬ S a.block) (hc : w.cell? a = some v)
    (h : RL P n sq S ops N rest (upd ρ d v) w) : RL P n sq S ops N (.cons ⟨some d, .load ty x, t, p, af, g⟩ f' rest) ρ w := by
  refine RL.yl (v := v) rfl hg (fun u hu => ?_) h
  simp only [execOp, hx, Instr.loadAt, Instr.sureAddr, loadVar, Sem.run_bind, Sem.run_pure, Result.andThen_ok, run_isAgg_one ht, Bool.false_eq_true, if_false]
  have : (load a).run P u = .ok v u := by simp only [load, Sem.run, hu.cell hS hc]
  rw [this]; rfl
/-- These cells hold these values. -/
def cellsAt (w : World) (a : Addr) : Nat → List Value → Prop
  | _, [] => True
  | i, v :: l => w.cell? (a.add i) = some v ∧ cellsAt w a (i + 1) l
theorem cellsAt_get {w : World} {a : Addr} : ∀ {l : List Value} {i : Nat}, cellsAt w a i l → ∀ j v, l[j]? = some v → w.cell? (a.add (i + j)) = some v
  | [], _, _, j, v, h => by simp at h
  | u :: l, i, h, 0, v, hv => by simp at hv; subst hv; exact h.1
  | u :: l, i, h, j + 1, v, hv => by
    have := cellsAt_get h.2 j v (by simpa using hv)
    rw [show i + (j + 1) = i + 1 + j from by omega]; exact this
theorem cellsAt_ext {w u : World} {a : Addr} (hu : Ext w u) : ∀ {l : List Value} {i : Nat}, cellsAt w a i l → cellsAt u a i l
  | [], _, _ => trivial
  | _ :: _, _, h => ⟨hu.cell h.1, cellsAt_ext hu h.2⟩
theorem run_loadAgg {ty : TypeId} {a : Addr} {l : List Value} (ht : Agg P ty l.length) (hc : cellsAt w a 0 l) : (loadVar ty a).run P w = .ok (.agg l.toArray) w := by
  have hz : Sz P ty l.length := ht.2
  have := run_loadCells_list (P := P) (w := w) a l (fun j v hv => by have := cellsAt_get hc j v hv; simpa using this)
  simp only [loadVar, Sem.run_bind, Sem.run_pure, Result.andThen_ok, run_isAgg_agg ht, if_true, run_sizeOf hz, this]
theorem blk_add (a : Addr) (i : Nat) : (a.add i).block = a.block := by unfold Addr.add; split <;> rfl
theorem cellsAt_exs {w u : World} {a : Addr} (hu : Exs S w u) (hS : ¬ S a.block) : ∀ {l : List Value} {i : Nat}, cellsAt w a i l → cellsAt u a i l
  | [], _, _ => trivial
  | _ :: _, _, h => ⟨hu.cell (by rw [blk_add]; exact hS) h.1, cellsAt_exs hu hS h.2⟩
theorem RL.la {x : Operand} {a : Addr} {ty : TypeId} (hg : wanted n ops ρ ⟨some d, .load ty x, t, p, af, g⟩ = true) (l : List Value) (ht : Agg P ty l.length) (hx : ev n ρ x = .pointer (some a)) (hc : cellsAt w a 0 l)
    (h : RL P n sq N0 ops N rest (upd ρ d (.agg l.toArray)) w) : RL P n sq N0 ops N (.cons ⟨some d, .load ty x, t, p, af, g⟩ f' rest) ρ w := by
  refine RL.yl (v := .agg l.toArray) rfl hg (fun u hu => ?_) h
  simp only [execOp, hx, Instr.loadAt, Instr.sureAddr, Sem.run_bind, Sem.run_pure, Result.andThen_ok, run_loadAgg ht (cellsAt_ext hu.e hc)]

theorem RL.las {x : Operand} {a : Addr} {ty : TypeId} (hg : wanted n ops ρ ⟨some d, .load ty x, t, p, af, g⟩ = true) (l : List Value) (ht : Agg P ty l.length) (hx : ev n ρ x = .pointer (some a)) (hS : ¬ S a.block) (hc : cellsAt w a 0 l)
    (h : RL P n sq S ops N rest (upd ρ d (.agg l.toArray)) w) : RL P n sq S ops N (.cons ⟨some d, .load ty x, t, p, af, g⟩ f' rest) ρ w := by
  refine RL.yl (v := .agg l.toArray) rfl hg (fun u hu => ?_) h
  simp only [execOp, hx, Instr.loadAt, Instr.sureAddr, Sem.run_bind, Sem.run_pure, Result.andThen_ok, run_loadAgg ht (cellsAt_exs hu hS hc)]

theorem RL.al {ty : TypeId} {z : Value} (hg : wanted n ops ρ ⟨some d, .alloc ty, t, p, af, g⟩ = true) (hz : Zr P ty z) (h : ∀ b w1, b = w.heap.size → w1 = w.alloc (.cells z.cells ty) → RL P n sq S ops N rest (upd ρ d (.pointer (some ⟨b, 0, none⟩))) w1) :
    RL P n sq S ops N (.cons ⟨some d, .alloc ty, t, p, af, g⟩ f' rest) ρ w := by
  refine RL.ef (v := .pointer (some ⟨w.heap.size, 0, none⟩)) (w' := w.alloc (.cells z.cells ty)) rfl hg ?_ (fun _ => (Ext.alloc _ _).s) (h _ _ rfl rfl)
  simp only [execOp, Instr.alloc, Sem.run_bind, run_zeroValue hz, Result.andThen_ok, newVar, newRow]
  rfl
theorem RL.bx {ty : TypeId} {x : Operand} (hg : wanted n ops ρ ⟨some d, .box ty x, t, p, af, g⟩ = true) (v : Value) (hx : ev n ρ x = v) (h : ∀ b w1, b = w.heap.size → w1 = w.alloc (.cells v.cells ty) → RL P n sq S ops N rest (upd ρ d (.pointer (some ⟨b, 0, none⟩))) w1) :
    RL P n sq S ops N (.cons ⟨some d, .box ty x, t, p, af, g⟩ f' rest) ρ w := by
  refine RL.ef (v := .pointer (some ⟨w.heap.size, 0, none⟩)) (w' := w.alloc (.cells v.cells ty)) rfl hg ?_ (fun _ => (Ext.alloc _ _).s) (h _ _ rfl rfl)
  subst hx; rfl

theorem run_store' {a : Addr} {v u : Value} (hv : v.oneCell' = true) (hc : w.cell? a = some u) (hf : w.frozen? a = false) : (store a v).run P w = .ok () (w.setCell a v) := by
  rw [run_store P w a v _ hv]; simp [hc, hf]
theorem exs_set {a : Addr} {v : Value} (hS : S a.block) {w : World} : Exs S w (w.setCell a v) := by
  refine ⟨by simp [World.setCell], fun b _ hb => ?_⟩
  have : a.block ≠ b := fun e => hb (e ▸ hS)
  simp [World.setCell, Array.getElem?_modify, this]
theorem RL.st {x y : Operand} {a : Addr} {ty : TypeId} (hfl : f' = false) (hg : wanted n ops ρ ⟨none, .store ty x y, t, p, af, g⟩ = true) (v : Value) (ht : One P ty) (hx : ev n ρ x = .pointer (some a)) (hy : ev n ρ y = v) (hv : v.oneCell' = true)
    (h : (w.cell? a).isSome = true ∧ w.frozen? a = false ∧ ∀ w1, w1 = w.setCell a v → RL P n sq S ops N rest ρ w1) : RL P n sq S ops N (.cons ⟨none, .store ty x y, t, p, af, g⟩ f' rest) ρ w := by
  obtain ⟨hc, hf, h⟩ := h
  obtain ⟨u, hc⟩ := Option.isSome_iff_exists.1 hc
  refine RL.es (w' := w.setCell a v) rfl hg ?_ (fun e => by rw [hfl] at e; cases e) (h _ rfl)
  have hs : v.cells = #[v] := by cases v <;> first | rfl | simp [Value.oneCell'] at hv
  have hz : Sz P ty 1 := ht.2
  simp only [execOp, hx, hy, Instr.storeAt, Instr.sureAddr, storeVar, Sem.run_bind, Sem.run_pure, Result.andThen_ok, run_sizeOf hz, hs, storeCells]
  have h0 : a.add 0 = a := rfl
  simp [h0, run_store' hv hc hf]
theorem RL.sts {x y : Operand} {a : Addr} {ty : TypeId} (hS : S a.block) (hg : wanted n ops ρ ⟨none, .store ty x y, t, p, af, g⟩ = true) (v : Value) (ht : One P ty) (hx : ev n ρ x = .pointer (some a)) (hy : ev n ρ y = v) (hv : v.oneCell' = true)
    (h : (w.cell? a).isSome = true ∧ w.frozen? a = false ∧ ∀ w1, w1 = w.setCell a v → RL P n sq S ops N rest ρ w1) : RL P n sq S ops N (.cons ⟨none, .store ty x y, t, p, af, g⟩ f' rest) ρ w := by
  obtain ⟨hc, hf, h⟩ := h
  obtain ⟨u, hc⟩ := Option.isSome_iff_exists.1 hc
  refine RL.es (w' := w.setCell a v) rfl hg ?_ (fun _ => exs_set hS) (h _ rfl)
  have hs : v.cells = #[v] := by cases v <;> first | rfl | simp [Value.oneCell'] at hv
  have hz : Sz P ty 1 := ht.2
  simp only [execOp, hx, hy, Instr.storeAt, Instr.sureAddr, storeVar, Sem.run_bind, Sem.run_pure, Result.andThen_ok, run_sizeOf hz, hs, storeCells]
  have h0 : a.add 0 = a := rfl
  simp [h0, run_store' hv hc hf]
/-- The world behind so many stores into neighbouring cells. -/
def setCells (w : World) (a : Addr) : Nat → List Value → World
  | _, [] => w
  | i, v :: l => setCells (w.setCell (a.add i) v) a (i + 1) l
/-- So many neighbouring cells are there, and may be written. -/
def mayCells (w : World) (a : Addr) (i m : Nat) : Prop := ∀ j, i ≤ j → j < i + m → (w.cell? (a.add j)).isSome = true ∧ w.frozen? (a.add j) = false
theorem isSome_setCell {w : World} {a b : Addr} {v : Value} (h : (w.cell? b).isSome = true) : ((w.setCell a v).cell? b).isSome = true := by
  by_cases e : a = b
  · subst e; obtain ⟨u, hu⟩ := Option.isSome_iff_exists.1 h; rw [World.cell?_setCell_same (h := hu)]; rfl
  · rw [World.cell?_setCell_other (h := e)]; exact h
theorem run_storeCells' {a : Addr} : ∀ (l : List Value) (i : Nat) (w : World), (∀ v ∈ l, v.oneCell' = true) → mayCells w a i l.length →
    (storeCells a l i).run P w = .ok () (setCells w a i l)
  | [], i, w, _, _ => rfl
  | v :: l, i, w, h1, hm => by
    obtain ⟨hc, hf⟩ := hm i (Nat.le_refl _) (by simp)
    obtain ⟨u, hc⟩ := Option.isSome_iff_exists.1 hc
    have ih := run_storeCells' (a := a) l (i + 1) (w.setCell (a.add i) v) (fun v hv => h1 v (List.mem_cons_of_mem _ hv)) (fun j h1 h2 => by
      have := hm j (by omega) (by simp; omega)
      exact ⟨isSome_setCell this.1, by rw [World.frozen?_setCell]; exact this.2⟩)
    simp only [storeCells, Sem.run_bind, run_store' (h1 v (List.mem_cons_self ..)) hc hf, Result.andThen_ok, ih, setCells]
theorem exs_sets {a : Addr} (hS : S a.block) : ∀ (l : List Value) (i : Nat) (w : World), Exs S w (setCells w a i l)
  | [], _, w => Exs.refl w
  | v :: l, i, w => (exs_set (a := a.add i) (v := v) (by rw [blk_add]; exact hS)).trans (exs_sets hS l (i + 1) _)
theorem RL.sa {x y : Operand} {a : Addr} {ty : TypeId} (hfl : f' = false) (hg : wanted n ops ρ ⟨none, .store ty x y, t, p, af, g⟩ = true) (l : List Value) (ht : Agg P ty l.length) (hx : ev n ρ x = .pointer (some a)) (hy : ev n ρ y = .agg l.toArray) (hv : l.all (·.oneCell') = true)
    (h : mayCells w a 0 l.length ∧ ∀ w1, w1 = setCells w a 0 l → RL P n sq S ops N rest ρ w1) : RL P n sq S ops N (.cons ⟨none, .store ty x y, t, p, af, g⟩ f' rest) ρ w := by
  obtain ⟨hc, h⟩ := h
  refine RL.es (w' := setCells w a 0 l) rfl hg ?_ (fun e => by rw [hfl] at e; cases e) (h _ rfl)
  have hz : Sz P ty l.length := ht.2
  have hs := run_storeCells' (P := P) (a := a) l 0 w (by simpa using hv) hc
  simp only [execOp, hx, hy, Instr.storeAt, Instr.sureAddr, storeVar, Value.cells, Sem.run_bind, Sem.run_pure, Result.andThen_ok, run_sizeOf hz]
  simp [hs]

theorem RL.sas {x y : Operand} {a : Addr} {ty : TypeId} (hS : S a.block) (hg : wanted n ops ρ ⟨none, .store ty x y, t, p, af, g⟩ = true) (l : List Value) (ht : Agg P ty l.length) (hx : ev n ρ x = .pointer (some a)) (hy : ev n ρ y = .agg l.toArray) (hv : l.all (·.oneCell') = true)
    (h : mayCells w a 0 l.length ∧ ∀ w1, w1 = setCells w a 0 l → RL P n sq S ops N rest ρ w1) : RL P n sq S ops N (.cons ⟨none, .store ty x y, t, p, af, g⟩ f' rest) ρ w := by
  obtain ⟨hc, h⟩ := h
  refine RL.es (w' := setCells w a 0 l) rfl hg ?_ (fun _ => exs_sets hS _ _ _) (h _ rfl)
  have hz : Sz P ty l.length := ht.2
  have hs := run_storeCells' (P := P) (a := a) l 0 w (by simpa using hv) hc
  simp only [execOp, hx, hy, Instr.storeAt, Instr.sureAddr, storeVar, Value.cells, Sem.run_bind, Sem.run_pure, Result.andThen_ok, run_sizeOf hz]
  simp [hs]

/-! ### Integers -/
def iop (op : BinOp) (k : IntKind) (a b : Int) : Option Value :=
  match op with
  | .add => some (.int k (k.wrap (a + b)))
  | .sub => some (.int k (k.wrap (a - b)))
  | .mul => some (.int k (k.wrap (a * b)))
  | .and => some (.int k (k.wrap (BitVec.ofInt k.bits a &&& BitVec.ofInt k.bits b).toNat))
  | .or => some (.int k (k.wrap (BitVec.ofInt k.bits a ||| BitVec.ofInt k.bits b).toNat))
  | .xor => some (.int k (k.wrap (BitVec.ofInt k.bits a ^^^ BitVec.ofInt k.bits b).toNat))
  | .andNot => some (.int k (k.wrap (BitVec.ofInt k.bits a &&& ~~~BitVec.ofInt k.bits b).toNat))
  | .eql => some (.bool (a == b))
  | .neq => some (.bool (a != b))
  | .lss => some (.bool (decide (a < b)))
  | .leq => some (.bool (decide (a ≤ b)))
  | .gtr => some (.bool (decide (b < a)))
  | .geq => some (.bool (decide (b ≤ a)))
  | _ => none
theorem RL.ib {op : BinOp} {k : IntKind} {x y : Operand} {xt yt : TypeId} {a b : Int} (hg : wanted n ops ρ ⟨some d, .binOp op xt x y yt, t, p, af, g⟩ = true) (v : Value) (hx : ev n ρ x = .int k a) (hy : ev n ρ y = .int k b) (hv : iop op k a b = some v)
    (h : RL P n sq S ops N rest (upd ρ d v) w) : RL P n sq S ops N (.cons ⟨some d, .binOp op xt x y yt, t, p, af, g⟩ f' rest) ρ w := by
  refine RL.yp (v := v) rfl hg (fun u => ?_) h
  simp only [execOp, hx, hy]
  cases op <;> simp only [iop, Option.some.injEq, reduceCtorEq] at hv <;> subst hv <;>
    simp [eqGuard, binOp, Op.intArith, Op.intBits, Op.intCmp, Sem.run_pure, GT.gt, GE.ge]
theorem RL.sl {k yk : IntKind} {x y : Operand} {xt yt : TypeId} {a b : Int} (hg : wanted n ops ρ ⟨some d, .binOp .shl xt x y yt, t, p, af, g⟩ = true) (hx : ev n ρ x = .int k a) (hy : ev n ρ y = .int yk b)
    (h : 0 ≤ b ∧ RL P n sq S ops N rest (upd ρ d (.int k (k.wrap (a * 2 ^ (min b.toNat k.bits))))) w) : RL P n sq S ops N (.cons ⟨some d, .binOp .shl xt x y yt, t, p, af, g⟩ f' rest) ρ w := by
  refine RL.yp (v := .int k (k.wrap (a * 2 ^ (min b.toNat k.bits)))) rfl hg (fun u => ?_) h.2
  simp [execOp, hx, hy, eqGuard, binOp, Op.shift, Int.not_lt.2 h.1]
theorem RL.sr {k yk : IntKind} {x y : Operand} {xt yt : TypeId} {a b : Int} (hg : wanted n ops ρ ⟨some d, .binOp .shr xt x y yt, t, p, af, g⟩ = true) (hx : ev n ρ x = .int k a) (hy : ev n ρ y = .int yk b)
    (h : 0 ≤ b ∧ RL P n sq S ops N rest (upd ρ d (.int k (a.fdiv (2 ^ (min b.toNat k.bits))))) w) : RL P n sq S ops N (.cons ⟨some d, .binOp .shr xt x y yt, t, p, af, g⟩ f' rest) ρ w := by
  refine RL.yp (v := .int k (a.fdiv (2 ^ (min b.toNat k.bits)))) rfl hg (fun u => ?_) h.2
  simp [execOp, hx, hy, eqGuard, binOp, Op.shift, Int.not_lt.2 h.1]
theorem RL.qu {k : IntKind} {x y : Operand} {xt yt : TypeId} {a b : Int} (hg : wanted n ops ρ ⟨some d, .binOp .quo xt x y yt, t, p, af, g⟩ = true) (hx : ev n ρ x = .int k a) (hy : ev n ρ y = .int k b)
    (h : b ≠ 0 ∧ RL P n sq S ops N rest (upd ρ d (.int k (k.wrap (a.tdiv b)))) w) : RL P n sq S ops N (.cons ⟨some d, .binOp .quo xt x y yt, t, p, af, g⟩ f' rest) ρ w := by
  refine RL.yp (v := .int k (k.wrap (a.tdiv b))) rfl hg (fun u => ?_) h.2
  simp [execOp, hx, hy, eqGuard, binOp, Op.intDiv, h.1]
theorem RL.rm {k : IntKind} {x y : Operand} {xt yt : TypeId} {a b : Int} (hg : wanted n ops ρ ⟨some d, .binOp .rem xt x y yt, t, p, af, g⟩ = true) (hx : ev n ρ x = .int k a) (hy : ev n ρ y = .int k b)
    (h : b ≠ 0 ∧ RL P n sq S ops N rest (upd ρ d (.int k (a.tmod b))) w) : RL P n sq S ops N (.cons ⟨some d, .binOp .rem xt x y yt, t, p, af, g⟩ f' rest) ρ w := by
  refine RL.yp (v := .int k (a.tmod b)) rfl hg (fun u => ?_) h.2
  simp [execOp, hx, hy, eqGuard, binOp, Op.intDiv, h.1]
theorem RL.ng {x : Operand} {xt : TypeId} {k : IntKind} {a : Int} (hg : wanted n ops ρ ⟨some d, .unOp .neg xt x, t, p, af, g⟩ = true) (hx : ev n ρ x = .int k a)
    (h : RL P n sq S ops N rest (upd ρ d (.int k (k.wrap (0 - a)))) w) : RL P n sq S ops N (.cons ⟨some d, .unOp .neg xt x, t, p, af, g⟩ f' rest) ρ w :=
  RL.yp (v := .int k (k.wrap (0 - a))) rfl hg (fun u => by simp [execOp, hx, Op.unary, Op.intArith]) h
theorem RL.nt {x : Operand} {xt : TypeId} {b : Bool} (hg : wanted n ops ρ ⟨some d, .unOp .not xt x, t, p, af, g⟩ = true) (hx : ev n ρ x = .bool b)
    (h : RL P n sq S ops N rest (upd ρ d (.bool (!b))) w) : RL P n sq S ops N (.cons ⟨some d, .unOp .not xt x, t, p, af, g⟩ f' rest) ρ w :=
  RL.yp (v := .bool (!b)) rfl hg (fun u => by simp [execOp, hx, Op.unary]) h

/-! ### Strings -/
def sop (op : BinOp) (a b : Str) : Option Bool :=
  match op with
  | .eql => some (a == b)
  | .neq => some (!(a == b))
  | .lss => some (Op.bytesLess a b)
  | .leq => some (Op.bytesLess a b || a == b)
  | .gtr => some (!(Op.bytesLess a b || a == b))
  | .geq => some (!(Op.bytesLess a b))
  | _ => none
theorem RL.sb {op : BinOp} {x y : Operand} {xt yt : TypeId} {a b : Str} (hg : wanted n ops ρ ⟨some d, .binOp op xt x y yt, t, p, af, g⟩ = true) (v : Bool) (hx : ev n ρ x = .string (mkS a)) (hy : ev n ρ y = .string (mkS b)) (hv : sop op a b = some v)
    (h : RL P n sq S ops N rest (upd ρ d (.bool v)) w) : RL P n sq S ops N (.cons ⟨some d, .binOp op xt x y yt, t, p, af, g⟩ f' rest) ρ w := by
  refine RL.yp (v := .bool v) rfl hg (fun u => ?_) h
  simp only [execOp, hx, hy]
  cases op <;> simp only [sop, Option.some.injEq, reduceCtorEq] at hv <;> subst hv <;>
    simp [eqGuard, binOp, Op.stringOp, toList_mkS]
theorem RL.sc {x y : Operand} {xt yt : TypeId} {a b : Str} (hg : wanted n ops ρ ⟨some d, .binOp .add xt x y yt, t, p, af, g⟩ = true) (hx : ev n ρ x = .string (mkS a)) (hy : ev n ρ y = .string (mkS b))
    (h : a.length + b.length ≤ 9223372036854775807 ∧ RL P n sq S ops N rest (upd ρ d (.string (mkS (a ++ b)))) w) : RL P n sq S ops N (.cons ⟨some d, .binOp .add xt x y yt, t, p, af, g⟩ f' rest) ρ w := by
  refine RL.yp (v := .string (mkS (a ++ b))) rfl hg (fun u => ?_) h.2
  have hb : ¬ (((mkS a).size + (mkS b).size : Nat) : Int) > IntKind.i64.max := by
    have : IntKind.i64.max = 9223372036854775807 := rfl
    simp only [size_mkS, this]; omega
  simp only [execOp, hx, hy, eqGuard, binOp, Op.stringOp, if_neg hb, mkS_append]
  simp
theorem RL.ix {x y : Operand} {xt : TypeId} {a : Str} {k : IntKind} {i : Int} (hg : wanted n ops ρ ⟨some d, .index xt x y, t, p, af, g⟩ = true) (hd : P.underlying xt = some .string) (hx : ev n ρ x = .string (mkS a)) (hy : ev n ρ y = .int k i)
    (h : (0 ≤ i ∧ i < a.length) ∧ RL P n sq S ops N rest (upd ρ d (.int .u8 ((a.getD i.toNat 0).toNat))) w) : RL P n sq S ops N (.cons ⟨some d, .index xt x y, t, p, af, g⟩ f' rest) ρ w := by
  refine RL.yp (v := .int .u8 ((a.getD i.toNat 0).toNat)) rfl hg (fun u => ?_) h.2
  obtain ⟨⟨h0, h1⟩, _⟩ := h
  have hlt : i.toNat < a.length := by omega
  have hg : (mkS a)[i.toNat]? = some (a.getD i.toNat 0) := by
    rw [getElem?_pos (mkS a) i.toNat (by rw [size_mkS]; exact hlt)]
    simp [mkS, ByteArray.getElem_eq_getElem_data, hlt]
  simp [execOp, hx, hy, Instr.index, asIntOf, run_underlying hd, h0, hg]
theorem RL.ln {x : Operand} {ty : TypeId} {a : Str} (hg : wanted n ops ρ ⟨some d, .call ⟨.builtin .len, #[x], #[ty]⟩, t, p, af, g⟩ = true) (hd : P.underlying ty = some .string) (hx : ev n ρ x = .string (mkS a))
    (h : RL P n sq S ops N rest (upd ρ d (.int .i64 a.length)) w) : RL P n sq S ops N (.cons ⟨some d, .call ⟨.builtin .len, #[x], #[ty]⟩, t, p, af, g⟩ f' rest) ρ w := by
  refine RL.yp (v := .int .i64 a.length) (by simp [cls, hd]) hg (fun u => ?_) h
  simp [execOp, hx, resolve, invoke, builtin, Builtin.len_, run_underlying hd, goInt]
theorem RL.ll {x : Operand} {ty e : TypeId} {a : Option Addr} {l c : Nat} (hg : wanted n ops ρ ⟨some d, .call ⟨.builtin .len, #[x], #[ty]⟩, t, p, af, g⟩ = true) (hd : P.underlying ty = some (.slice e)) (hx : ev n ρ x = .slice a l c)
    (h : RL P n sq S ops N rest (upd ρ d (.int .i64 l)) w) : RL P n sq S ops N (.cons ⟨some d, .call ⟨.builtin .len, #[x], #[ty]⟩, t, p, af, g⟩ f' rest) ρ w := by
  refine RL.yp (v := .int .i64 l) (by simp [cls, hd]) hg (fun u => ?_) h
  simp [execOp, hx, resolve, invoke, builtin, Builtin.len_, run_underlying hd, goInt]
/-- A part of a text. -/
def sub (a : Str) (l h : Int) : Str := (a.drop l.toNat).take (h.toNat - l.toNat)
theorem extract_mkS (a : Str) (l h : Nat) : (mkS a).extract l h = mkS ((a.drop l).take (h - l)) := by
  apply ByteArray.ext
  simp [mkS, ByteArray.data_extract, List.extract_eq_take_drop]
theorem run_sliceBound {k : IntKind} {i : Int} {y : Nat} {c : BoundsCode} (h0 : 0 ≤ i) (h1 : i ≤ y) (w : World) : (Instr.sliceBound (.int k i) y c).run P w = .ok i.toNat w := by
  simp [Instr.sliceBound, asIntOf, h0, h1]
/-- A bound of a slice that may be left out. -/
def bd (ρ : Env) (n : Nat) (x : Option Operand) (dflt : Int) (i : Int) : Prop :=
  match x with
  | none => i = dflt
  | some o => ∃ k, ev n ρ o = .int k i
theorem run_bounds {isS : Bool} {l c : Nat} {lo hi : Option Operand} {i j : Int} (hlo : bd ρ n lo 0 i) (hhi : bd ρ n hi l j) (hi1 : (hi.isNone = true ∨ j ≤ c)) (h0 : 0 ≤ i) (hij : i ≤ j) (w : World) :
    (Instr.sliceBounds isS l c (lo.map (ev n ρ)) (hi.map (ev n ρ)) none).run P w = .ok (i.toNat, j.toNat, c) w := by
  cases hi with
  | none =>
    simp only [bd] at hhi; subst hhi
    cases lo with
    | none => simp only [bd] at hlo; subst hlo; simp [Instr.sliceBounds]
    | some o =>
      obtain ⟨k, hk⟩ := hlo
      simp [Instr.sliceBounds, hk, run_sliceBound (P := P) h0 hij]
  | some o' =>
    obtain ⟨k', hk'⟩ := hhi
    have hjc : j ≤ c := by simpa using hi1
    have hj0 : 0 ≤ j := by omega
    cases lo with
    | none => simp only [bd] at hlo; subst hlo; simp [Instr.sliceBounds, hk', run_sliceBound (P := P) hj0 hjc]
    | some o =>
      obtain ⟨k, hk⟩ := hlo
      have hij' : i ≤ (j.toNat : Int) := by omega
      simp [Instr.sliceBounds, hk, hk', run_sliceBound (P := P) hj0 hjc, run_sliceBound (P := P) h0 hij']
theorem RL.ss {x : Operand} {lo hi : Option Operand} {xt : TypeId} {a : Str} {i j : Int} (hg : wanted n ops ρ ⟨some d, .slice xt x lo hi none, t, p, af, g⟩ = true) (hd : P.underlying xt = some .string) (hx : ev n ρ x = .string (mkS a)) (hlo : bd ρ n lo 0 i) (hhi : bd ρ n hi a.length j)
    (h : (0 ≤ i ∧ i ≤ j ∧ j ≤ a.length) ∧ RL P n sq S ops N rest (upd ρ d (.string (mkS (sub a i j)))) w) : RL P n sq S ops N (.cons ⟨some d, .slice xt x lo hi none, t, p, af, g⟩ f' rest) ρ w := by
  obtain ⟨⟨h0, hij, hj⟩, h⟩ := h
  refine RL.yp (v := .string (mkS (sub a i j))) rfl hg (fun u => ?_) h
  have hl : (mkS a).size = a.length := size_mkS a
  have hb := fun u => run_bounds (P := P) (n := n) (ρ := ρ) (isS := false) (l := a.length) (c := a.length) (lo := lo) (hi := hi) hlo hhi (.inr hj) h0 hij u
  simp [execOp, hx, Instr.sliceAt, Instr.slice, run_underlying hd, hb, extract_mkS, sub]
/-- A slice of a slice. -/
def slS (s : Sl) (size : Nat) (i j : Int) : Sl := ⟨if s.cap = i.toNat then s.base else s.base.map (·.add (i.toNat * size)), j.toNat - i.toNat, s.cap - i.toNat⟩
theorem RL.sS {x : Operand} {lo hi : Option Operand} {xt e : TypeId} {s : Sl} {sz : Nat} {i j : Int} (hg : wanted n ops ρ ⟨some d, .slice xt x lo hi none, t, p, af, g⟩ = true) (hd : P.underlying xt = some (.slice e)) (hz : Sz P e sz) (hx : ev n ρ x = .slice s.base s.len s.cap) (hlo : bd ρ n lo 0 i) (hhi : bd ρ n hi s.len j)
    (h : (0 ≤ i ∧ i ≤ j ∧ (hi.isNone = true ∨ j ≤ s.cap)) ∧ RL P n sq S ops N rest (upd ρ d (.slice (slS s sz i j).base (slS s sz i j).len (slS s sz i j).cap)) w) : RL P n sq S ops N (.cons ⟨some d, .slice xt x lo hi none, t, p, af, g⟩ f' rest) ρ w := by
  obtain ⟨⟨h0, hij, hj⟩, h⟩ := h
  refine RL.yp (v := .slice (slS s sz i j).base (slS s sz i j).len (slS s sz i j).cap) rfl hg (fun u => ?_) h
  have hb := fun u => run_bounds (P := P) (n := n) (ρ := ρ) (isS := true) (l := s.len) (c := s.cap) (lo := lo) (hi := hi) hlo hhi hj h0 hij u
  simp [execOp, hx, Instr.sliceAt, Instr.slice, run_underlying hd, hb, run_sizeOf hz, slS]
/-- A slice of an array in memory. -/
theorem RL.sA {x : Operand} {lo hi : Option Operand} {xt e : TypeId} {a : Addr} {m sz : Nat} {i j : Int} (hg : wanted n ops ρ ⟨some d, .slice xt x lo hi none, t, p, af, g⟩ = true) (hd : P.underlying xt = some (.array m e)) (hz : Sz P e sz) (hx : ev n ρ x = .pointer (some a)) (hlo : bd ρ n lo 0 i) (hhi : bd ρ n hi m j)
    (h : (0 ≤ i ∧ i ≤ j ∧ j ≤ m) ∧ RL P n sq S ops N rest (upd ρ d (.slice (slS ⟨some a, m, m⟩ sz i j).base (slS ⟨some a, m, m⟩ sz i j).len (slS ⟨some a, m, m⟩ sz i j).cap)) w) : RL P n sq S ops N (.cons ⟨some d, .slice xt x lo hi none, t, p, af, g⟩ f' rest) ρ w := by
  obtain ⟨⟨h0, hij, hj⟩, h⟩ := h
  refine RL.yp (v := .slice (slS ⟨some a, m, m⟩ sz i j).base (slS ⟨some a, m, m⟩ sz i j).len (slS ⟨some a, m, m⟩ sz i j).cap) rfl hg (fun u => ?_) h
  have hb := fun u => run_bounds (P := P) (n := n) (ρ := ρ) (isS := false) (l := m) (c := m) (lo := lo) (hi := hi) hlo hhi (.inr hj) h0 hij u
  simp [execOp, hx, Instr.sliceAt, Instr.sureAddr, run_underlying hd, hb, run_sizeOf hz, slS]
  split <;> rfl
theorem RL.ia {x y : Operand} {xt e : TypeId} {s : Sl} {sz : Nat} {k : IntKind} {i : Int} (hg : wanted n ops ρ ⟨some d, .indexAddr xt x y, t, p, af, g⟩ = true) (hd : P.underlying xt = some (.slice e)) (hz : Sz P e sz) (hx : ev n ρ x = .slice s.base s.len s.cap) (hy : ev n ρ y = .int k i)
    (h : ∃ a, s.base = some a ∧ (0 ≤ i ∧ i < s.len) ∧ RL P n sq S ops N rest (upd ρ d (.pointer (some (a.add (i.toNat * sz))))) w) : RL P n sq S ops N (.cons ⟨some d, .indexAddr xt x y, t, p, af, g⟩ f' rest) ρ w := by
  obtain ⟨a, ha, hi, h⟩ := h
  refine RL.yp (v := .pointer (some (a.add (i.toNat * sz)))) rfl hg (fun u => ?_) h
  simp [execOp, hx, hy, Instr.indexAt, asIntOf, run_underlying hd, ha, hi, run_sizeOf hz]
/-- An element of an array in memory. -/
theorem RL.iA {x y : Operand} {xt e : TypeId} {a : Addr} {m sz : Nat} {k : IntKind} {i : Int} (hg : wanted n ops ρ ⟨some d, .indexAddr xt x y, t, p, af, g⟩ = true) (hd : P.underlying xt = some (.array m e)) (hz : Sz P e sz) (hx : ev n ρ x = .pointer (some a)) (hy : ev n ρ y = .int k i)
    (h : (0 ≤ i ∧ i < m) ∧ RL P n sq S ops N rest (upd ρ d (.pointer (some (a.add (i.toNat * sz))))) w) : RL P n sq S ops N (.cons ⟨some d, .indexAddr xt x y, t, p, af, g⟩ f' rest) ρ w := by
  obtain ⟨hi, h⟩ := h
  refine RL.yp (v := .pointer (some (a.add (i.toNat * sz)))) rfl hg (fun u => ?_) h
  simp [execOp, hx, hy, Instr.indexAt, Instr.sureAddr, asIntOf, run_underlying hd, hi, run_sizeOf hz]

/-! ### What is run as it stands: its own run is asked -/
theorem RL.ex {x : Operand} {i : Nat} {l : List Value} (hg : wanted n ops ρ ⟨some d, .extract x i, t, p, af, g⟩ = true) (v : Value) (hx : ev n ρ x = .tuple l.toArray) (hv : l[i]? = some v)
    (h : RL P n sq S ops N rest (upd ρ d v) w) : RL P n sq S ops N (.cons ⟨some d, .extract x i, t, p, af, g⟩ f' rest) ρ w :=
  RL.yp (v := v) rfl hg (fun u => by simp [execOp, hx, Instr.extract, hv]) h
theorem RL.bu {ty : TypeId} {ps : Array (Nat × Operand)} {qs : List (Nat × Value)} (hg : wanted n ops ρ ⟨some d, .build ty ps, t, p, af, g⟩ = true) (v : Value) (hp : (ps.toList.map fun (i, x) => (i, ev n ρ x)) = qs) (hv : ∀ w, (Instr.build ty qs.toArray).run P w = .ok v w)
    (h : RL P n sq S ops N rest (upd ρ d v) w) : RL P n sq S ops N (.cons ⟨some d, .build ty ps, t, p, af, g⟩ f' rest) ρ w := by
  refine RL.yp (v := v) rfl hg (fun u => ?_) h
  have : (ps.map fun (i, x) => (i, ev n ρ x)) = qs.toArray := Array.ext' (by simpa using hp)
  simp [execOp, this, hv]
theorem RL.bs {ty : TypeId} {m : Nat} {ps : Array (Nat × Operand)} {qs : List (Nat × Value)} {cs : List Value} {e : TypeId} (hg : wanted n ops ρ ⟨some d, .buildSlice ty m ps, t, p, af, g⟩ = true) (hp : (ps.toList.map fun (i, x) => (i, ev n ρ x)) = qs)
    (hv : ∀ w, (Instr.buildSlice ty m qs.toArray).run P w = .ok (.slice (some ⟨w.heap.size, 0, none⟩) m m) (w.alloc (.cells cs.toArray e)))
    (h : ∀ b w1, b = w.heap.size → w1 = w.alloc (.cells cs.toArray e) → RL P n sq S ops N rest (upd ρ d (.slice (some ⟨b, 0, none⟩) m m)) w1) : RL P n sq S ops N (.cons ⟨some d, .buildSlice ty m ps, t, p, af, g⟩ f' rest) ρ w := by
  refine RL.ef (v := .slice (some ⟨w.heap.size, 0, none⟩) m m) (w' := w.alloc (.cells cs.toArray e)) rfl hg ?_ (fun _ => (Ext.alloc _ _).s) (h _ _ rfl rfl)
  have : (ps.map fun (i, x) => (i, ev n ρ x)) = qs.toArray := Array.ext' (by simpa using hp)
  simp [execOp, this, hv]
theorem RL.fd {xt : TypeId} {x : Operand} {f : Nat} {vx : Value} (hg : wanted n ops ρ ⟨some d, .field xt x f, t, p, af, g⟩ = true) (v : Value) (hx : ev n ρ x = vx) (hv : ∀ w, (Instr.field xt vx f).run P w = .ok v w)
    (h : RL P n sq S ops N rest (upd ρ d v) w) : RL P n sq S ops N (.cons ⟨some d, .field xt x f, t, p, af, g⟩ f' rest) ρ w := by
  subst hx
  exact RL.yp (v := v) rfl hg (fun u => by simp [execOp, hv]) h
theorem RL.iX {xt : TypeId} {x y : Operand} {vx vy : Value} (hg : wanted n ops ρ ⟨some d, .index xt x y, t, p, af, g⟩ = true) (v : Value) (hx : ev n ρ x = vx) (hy : ev n ρ y = vy)
    (h : (∀ u, (Instr.index xt vx vy).run P u = .ok v u) ∧ RL P n sq S ops N rest (upd ρ d v) w) : RL P n sq S ops N (.cons ⟨some d, .index xt x y, t, p, af, g⟩ f' rest) ρ w := by
  subst hx hy
  exact RL.yp (v := v) rfl hg (fun u => by simp [execOp, h.1]) h.2
def Pu (P : Program) {α : Type} (s : Sem α) (v : α) : Prop := ∀ u, s.run P u = .ok v u
/-- A read that goes so as long as what is there stays. -/
def Rd (P : Program) (w : World) {α : Type} (s : Sem α) (v : α) : Prop := ∀ u, Ext w u → s.run P u = .ok v u
/-- A comparison whose outcome is told. -/
theorem RL.eq {op : BinOp} {x y : Operand} {xt yt : TypeId} {vx vy : Value} (hg : wanted n ops ρ ⟨some d, .binOp op xt x y yt, t, p, af, g⟩ = true) (b : Bool) (hx : ev n ρ x = vx) (hy : ev n ρ y = vy) (hv : ∀ w, (do eqGuard op xt x y vx vy; binOp op xt vx vy : Sem Value).run P w = .ok (.bool b) w)
    (h : RL P n sq S ops N rest (upd ρ d (.bool b)) w) : RL P n sq S ops N (.cons ⟨some d, .binOp op xt x y yt, t, p, af, g⟩ f' rest) ρ w := by
  subst hx hy
  exact RL.yp (v := .bool b) rfl hg (fun u => by have := hv u; simp only [execOp, Sem.run_bind] at this ⊢; rw [this]; rfl) h
theorem RL.eqH {op : BinOp} {x y : Operand} {xt yt : TypeId} {vx vy : Value} (hg : wanted n ops ρ ⟨some d, .binOp op xt x y yt, t, p, af, g⟩ = true) (b : Bool) (hx : ev n ρ x = vx) (hy : ev n ρ y = vy)
    (h : (∀ u, (binOp op xt vx vy).run P u = .ok (.bool b) u) ∧ RL P n sq S ops N rest (upd ρ d (.bool b)) w) (hgd : eqGuard op xt x y vx vy = pure ()) : RL P n sq S ops N (.cons ⟨some d, .binOp op xt x y yt, t, p, af, g⟩ f' rest) ρ w := by
  subst hx hy
  refine RL.yp (v := .bool b) rfl hg (fun u => ?_) h.2
  simp only [execOp, hgd]
  have := h.1 u
  simp only [Sem.run_bind, Sem.run_pure, Result.andThen_ok, this]
theorem RL.ci {src dst : TypeId} {k : IntKind} {x : Operand} {k' : IntKind} {a : Int} (hg : wanted n ops ρ ⟨some d, .convert src dst x, t, p, af, g⟩ = true) {ks : IntKind} (hs : P.underlying src = some (.int ks)) (hd : P.underlying dst = some (.int k)) (hx : ev n ρ x = .int k' a)
    (h : RL P n sq S ops N rest (upd ρ d (.int k (k.wrap a))) w) : RL P n sq S ops N (.cons ⟨some d, .convert src dst x, t, p, af, g⟩ f' rest) ρ w := by
  refine RL.yp (v := .int k (k.wrap a)) (by simp only [cls, hs, hd]) hg (fun u => ?_) h
  simp [execOp, hx, convert, run_underlying hs, run_underlying hd, Conv.intToInt]
theorem RL.cs {src dst : TypeId} {x : Operand} {a : ByteArray} (hg : wanted n ops ρ ⟨some d, .convert src dst x, t, p, af, g⟩ = true) (hs : P.underlying src = some .string) (hd : P.underlying dst = some .string) (hx : ev n ρ x = .string a)
    (h : RL P n sq S ops N rest (upd ρ d (.string a)) w) : RL P n sq S ops N (.cons ⟨some d, .convert src dst x, t, p, af, g⟩ f' rest) ρ w := by
  refine RL.yp (v := .string a) (by simp only [cls, hs, hd]) hg (fun u => ?_) h
  simp [execOp, hx, convert, run_underlying hs, run_underlying hd]
/-- Bytes in memory as a text. -/
def bytesAt (w : World) (s : Sl) (l : Str) : Prop := (s.base = none ∧ l = []) ∨ ∃ a, s.base = some a ∧ l.length = s.len ∧ ∀ i, i < s.len → w.cell? (a.add i) = some (.int .u8 ((l.getD i 0).toNat))
theorem RL.cb {src dst e : TypeId} {x : Operand} {s : Sl} (hg : wanted n ops ρ ⟨some d, .convert src dst x, t, p, af, g⟩ = true) (hs : P.underlying src = some (.slice e)) (hd : P.underlying dst = some .string) (he : P.underlying e = some (.int .u8)) (hx : ev n ρ x = .slice s.base s.len s.cap) (l : Str)
    (h : bytesAt w s l ∧ RL P n sq N0 ops N rest (upd ρ d (.string (mkS l))) w) : RL P n sq N0 ops N (.cons ⟨some d, .convert src dst x, t, p, af, g⟩ f' rest) ρ w := by
  refine RL.yl (v := .string (mkS l)) (by simp only [cls, hs]) hg (fun u hu => have hu := hu.e; ?_) h.2
  rcases h.1 with ⟨hb, rfl⟩ | ⟨a, hb, hl, hc⟩
  · simp [execOp, hx, hb, convert, run_underlying hs, run_underlying hd, run_underlying he, Conv.bytesToString]
    rfl
  · have hz : (loadCells a s.len).run P u = .ok ((l.map fun b => (b.toNat : Int)).map (Value.int .u8)).toArray u := by
      have := run_loadCells_list (P := P) (w := u) a ((l.map fun b => (b.toNat : Int)).map (Value.int .u8)) (fun j v hv => by
        simp only [List.map_map, List.getElem?_map, Option.map_eq_some_iff, Function.comp] at hv
        obtain ⟨b, hb, rfl⟩ := hv
        have hj : j < s.len := by rw [← hl]; exact (List.getElem?_eq_some_iff.1 hb).1
        rw [hu.cell (hc j hj), List.getD_eq_getElem?_getD, hb]; rfl)
      simpa [hl] using this
    have hr := run_bytesToString (P := P) u a s.len s.cap _ hz
    have hfold : ∀ (l : Str) (r : Str), (l.map fun b => (b.toNat : Int)).foldl (fun r n => r.push (UInt8.ofNat n.toNat)) (mkS r) = mkS (r ++ l) := by
      intro l
      induction l with
      | nil => intro r; simp
      | cons b l ih =>
        intro r
        simp only [List.map_cons, List.foldl_cons]
        have : (mkS r).push (UInt8.ofNat ((b.toNat : Int)).toNat) = mkS (r ++ [b]) := by
          apply ByteArray.ext
          simp [mkS]
        rw [this, ih]; simp
    have h0 := hfold l []
    have e0 : mkS [] = ByteArray.empty := rfl
    rw [e0] at h0
    rw [h0] at hr
    simp only [List.nil_append] at hr
    simp [execOp, hx, hb, run_convert_bytes_string u src dst e _ _ _ hs he hd, hr]
theorem RL.mf {f : Fn} {as_ bs : Array Operand} {va vb : List Value} (hg : wanted n ops ρ ⟨some d, .makeFunc f as_ bs, t, p, af, g⟩ = true) (ha : as_.toList.map (ev n ρ) = va) (hb : bs.toList.map (ev n ρ) = vb)
    (h : RL P n sq S ops N rest (upd ρ d (.func f va.toArray vb.toArray)) w) : RL P n sq S ops N (.cons ⟨some d, .makeFunc f as_ bs, t, p, af, g⟩ f' rest) ρ w := by
  refine RL.yp (v := .func f va.toArray vb.toArray) rfl hg (fun u => ?_) h
  have h1 : as_.map (ev n ρ) = va.toArray := Array.ext' (by simpa using ha)
  have h2 : bs.map (ev n ρ) = vb.toArray := Array.ext' (by simpa using hb)
  simp [execOp, Instr.makeFunc, h1, h2]
theorem run_callFunc {f : FuncId} (hf : IsFn P f) (args : Array Value) (w : World) : (callFunc f args).run P w = .ok (.enter f args) w := by
  unfold IsFn at hf
  obtain ⟨fn, h, h3⟩ := Option.map_eq_some_iff.1 hf
  obtain ⟨h1, h2⟩ := Prod.mk.inj h3
  have h1' : fn.name ≠ "runtime.NumGoroutine" := by simpa using h1
  have h2' : fn.body ≠ none := by intro e; rw [e] at h2; cases h2
  simp [callFunc, h, h1', h2']
theorem RL.ca {f : FuncId} {dd : Option Nat} {as_ : Array Operand} {ts : Array TypeId} {va : List Value} (hfl : f' = false) (hg : wanted n ops ρ ⟨dd, .call ⟨.value (.func f), as_, ts⟩, t, p, af, g⟩ = true) (hf : IsFn P f) (ha : as_.toList.map (ev n ρ) = va)
    (h : Cl P f va w fun v w'' => RL P n sq S ops N rest (put ρ dd v) w'') : RL P n sq S ops N (.cons ⟨dd, .call ⟨.value (.func f), as_, ts⟩, t, p, af, g⟩ f' rest) ρ w := by
  refine RL.cl rfl hg (g := f) (args := va) ?_ h (fun _ _ _ e => by rw [hfl] at e; cases e) (fun _ _ h => h)
  have h1 : as_.map (ev n ρ) = va.toArray := Array.ext' (by simpa using ha)
  simp [execOp, resolve, Deferred.ofValue, invoke, ev, h1, run_callFunc hf]
/-- A call beside which something is read. -/
theorem RL.cx {f : FuncId} {dd : Option Nat} {as_ : Array Operand} {ts : Array TypeId} {va : List Value} (hg : wanted n ops ρ ⟨dd, .call ⟨.value (.func f), as_, ts⟩, t, p, af, g⟩ = true) (hf : IsFn P f) (ha : as_.toList.map (ev n ρ) = va)
    (h : Cl P f va w fun v w'' => Ext w w'' ∧ RL P n sq S ops N rest (put ρ dd v) w'') : RL P n sq S ops N (.cons ⟨dd, .call ⟨.value (.func f), as_, ts⟩, t, p, af, g⟩ f' rest) ρ w := by
  refine RL.cl rfl hg (g := f) (args := va) ?_ h (fun _ _ h _ => h.1.s) (fun _ _ h => h.2)
  have h1 : as_.map (ev n ρ) = va.toArray := Array.ext' (by simpa using ha)
  simp [execOp, resolve, Deferred.ofValue, invoke, ev, h1, run_callFunc hf]
/-- A call by a function's value that is known. -/
theorem RL.cv {x : Operand} {f : FuncId} {caps : List Value} {dd : Option Nat} {as_ : Array Operand} {ts : Array TypeId} {va : List Value} (hfl : f' = false) (hg : wanted n ops ρ ⟨dd, .call ⟨.value x, as_, ts⟩, t, p, af, g⟩ = true) (hf : IsFn P f) (hx : ev n ρ x = .func (.func f) #[] caps.toArray) (ha : as_.toList.map (ev n ρ) = va)
    (h : Cl P f (va ++ caps) w fun v w'' => RL P n sq S ops N rest (put ρ dd v) w'') : RL P n sq S ops N (.cons ⟨dd, .call ⟨.value x, as_, ts⟩, t, p, af, g⟩ f' rest) ρ w := by
  refine RL.cl rfl hg (g := f) (args := va ++ caps) ?_ h (fun _ _ _ e => by rw [hfl] at e; cases e) (fun _ _ h => h)
  have h1 : as_.map (ev n ρ) = va.toArray := Array.ext' (by simpa using ha)
  simp [execOp, resolve, Deferred.ofValue, invoke, hx, h1, run_callFunc hf]
/-- A call by a function's value that came in: of a function, or of a loop's own. -/
def Cw (P : Program) (fv : Value) (args : List Value) (w : World) (k : Value → World → Prop) : Prop := ∃ f caps, fv = .func (.func f) #[] (List.toArray caps) ∧ IsFn P f ∧ Cl P f (args ++ caps) w k
def Cv (P : Program) (fv : Value) (args : List Value) (w : World) (k : Value → World → Prop) : Prop := Cw P fv args w k ∨ ∃ l, fv = .func (.yield l) #[] #[] ∧ Yd P l args w k
theorem Cw.mono {fv : Value} {args : List Value} {w : World} {k k' : Value → World → Prop} (h : Cw P fv args w k) (hk : ∀ v w', k v w' → k' v w') : Cw P fv args w k' :=
  let ⟨f, caps, e, hf, h⟩ := h; ⟨f, caps, e, hf, h.mono hk⟩
theorem Yd.mono {l : Nat} {args : List Value} {w : World} {k k' : Value → World → Prop} (h : Yd P l args w k) (hk : ∀ v w', k v w' → k' v w') : Yd P l args w k' :=
  let ⟨r, h1, h2, h⟩ := h; ⟨r, h1, h2, h.mono fun _ _ ⟨v, e, h⟩ => ⟨v, e, hk _ _ h⟩⟩
theorem Cv.mono {fv : Value} {args : List Value} {w : World} {k k' : Value → World → Prop} (h : Cv P fv args w k) (hk : ∀ v w', k v w' → k' v w') : Cv P fv args w k' :=
  h.elim (fun h => .inl (h.mono hk)) fun ⟨l, e, h⟩ => .inr ⟨l, e, h.mono hk⟩
theorem Cv.of {f : FuncId} {caps args : List Value} {w : World} {k : Value → World → Prop} (hf : IsFn P f) (h : Cl P f (args ++ caps) w k) : Cv P (.func (.func f) #[] caps.toArray) args w k := .inl ⟨f, caps, rfl, hf, h⟩
theorem RL.ce {x : Operand} {dd : Option Nat} {as_ : Array Operand} {ts : Array TypeId} {va : List Value} {fv : Value} (hfl : f' = false) (hg : wanted n ops ρ ⟨dd, .call ⟨.value x, as_, ts⟩, t, p, af, g⟩ = true) (hx : ev n ρ x = fv) (ha : as_.toList.map (ev n ρ) = va)
    (h : Cw P fv va w fun v w'' => RL P n sq S ops N rest (put ρ dd v) w'') : RL P n sq S ops N (.cons ⟨dd, .call ⟨.value x, as_, ts⟩, t, p, af, g⟩ f' rest) ρ w := by
  obtain ⟨f, caps, rfl, hf, h⟩ := h
  exact RL.cv hfl hg hf hx ha h
theorem RL.cd {x : Operand} {dd : Option Nat} {as_ : Array Operand} {ts : Array TypeId} {va : List Value} {fv : Value} (hsq : sq = true) (hfl : f' = false) (hg : wanted n ops ρ ⟨dd, .call ⟨.value x, as_, ts⟩, t, p, af, g⟩ = true) (hx : ev n ρ x = fv) (ha : as_.toList.map (ev n ρ) = va)
    (h : Cv P fv va w fun v w'' => RL P n sq S ops N rest (put ρ dd v) w'') : RL P n sq S ops N (.cons ⟨dd, .call ⟨.value x, as_, ts⟩, t, p, af, g⟩ f' rest) ρ w := by
  rcases h with h | ⟨l, rfl, r, hr, hs, h⟩
  · exact RL.ce hfl hg hx ha h
  · refine RL.rd hsq hg (fun c => by simp) ?_ h (fun v w' h => h)
    have h1 : as_.map (ev n ρ) = va.toArray := Array.ext' (by simpa using ha)
    simp [execOp, resolve, Deferred.ofValue, invoke, hx, h1, run_yield hr (args := va.toArray) (by simpa using hs)]
theorem RL.lk {mt : TypeId} {x y : Operand} {ok : Bool} {vm vk : Value} (hg : wanted n ops ρ ⟨some d, .lookup mt x y ok, t, p, af, g⟩ = true) (v : Value) (hx : ev n ρ x = vm) (hy : ev n ρ y = vk)
    (h : Rd P w (Instr.lookup mt vm vk ok) v ∧ RL P n sq N0 ops N rest (upd ρ d v) w) : RL P n sq N0 ops N (.cons ⟨some d, .lookup mt x y ok, t, p, af, g⟩ f' rest) ρ w := by
  subst hx hy
  exact RL.yl (v := v) rfl hg (fun u hu => by simp [execOp, h.1 u hu.e]) h.2
theorem RL.mu {mt : TypeId} {x y z : Operand} {vm vk vv : Value} (hfl : f' = false) (hg : wanted n ops ρ ⟨none, .mapUpdate mt x y z, t, p, af, g⟩ = true) (hx : ev n ρ x = vm) (hy : ev n ρ y = vk) (hz : ev n ρ z = vv)
    (h : ∃ w1, (Instr.mapUpdate mt vm vk vv).run P w = .ok () w1 ∧ RL P n sq S ops N rest ρ w1) : RL P n sq S ops N (.cons ⟨none, .mapUpdate mt x y z, t, p, af, g⟩ f' rest) ρ w := by
  subst hx hy hz
  obtain ⟨w1, h1, h⟩ := h
  exact RL.es (w' := w1) rfl hg (by simp [execOp, h1]) (fun e => by rw [hfl] at e; cases e) h
theorem RL.mi {mt : TypeId} {x y z : Operand} {vm vk vv : Value} (hfl : f' = false) (hg : wanted n ops ρ ⟨none, .insert mt x y z, t, p, af, g⟩ = true) (hx : ev n ρ x = vm) (hy : ev n ρ y = vk) (hz : ev n ρ z = vv)
    (h : ∃ w1, (Instr.mapUpdate mt vm vk vv).run P w = .ok () w1 ∧ RL P n sq S ops N rest ρ w1) : RL P n sq S ops N (.cons ⟨none, .insert mt x y z, t, p, af, g⟩ f' rest) ρ w := by
  subst hx hy hz
  obtain ⟨w1, h1, h⟩ := h
  exact RL.es (w' := w1) rfl hg (by simp [execOp, h1]) (fun e => by rw [hfl] at e; cases e) h
theorem RL.mm {mt : TypeId} (hg : wanted n ops ρ ⟨some d, .makeMap mt none, t, p, af, g⟩ = true) (h : ∀ b w1, b = w.heap.size → w1 = w.alloc (.map #[] 0) → RL P n sq S ops N rest (upd ρ d (.map (some b))) w1) :
    RL P n sq S ops N (.cons ⟨some d, .makeMap mt none, t, p, af, g⟩ f' rest) ρ w := by
  refine RL.ef (v := .map (some w.heap.size)) (w' := w.alloc (.map #[] 0)) rfl hg ?_ (fun _ => (Ext.alloc _ _).s) (h _ _ rfl rfl)
  simp only [execOp, Instr.makeMap]; rfl
theorem RL.ap {x y : Operand} {ts : Array TypeId} {vx vy : Value} (hfl : f' = false) (hg : wanted n ops ρ ⟨some d, .call ⟨.builtin .append, #[x, y], ts⟩, t, p, af, g⟩ = true) (hx : ev n ρ x = vx) (hy : ev n ρ y = vy)
    (h : ∃ s w1, (Builtin.append_ ts t #[vx, vy]).run P w = .ok (.slice (Sl.base s) s.len s.cap) w1 ∧ RL P n sq S ops N rest (upd ρ d (.slice s.base s.len s.cap)) w1) :
    RL P n sq S ops N (.cons ⟨some d, .call ⟨.builtin .append, #[x, y], ts⟩, t, p, af, g⟩ f' rest) ρ w := by
  obtain ⟨s, w1, hr, h⟩ := h
  refine RL.ef (v := .slice s.base s.len s.cap) (w' := w1) rfl hg ?_ (fun e => by rw [hfl] at e; cases e) h
  simp [execOp, resolve, invoke, builtin, hx, hy, hr]
theorem RL.cy {x y : Operand} {ts : Array TypeId} {vx vy : Value} {dd : Option Nat} (hfl : f' = false) (hg : wanted n ops ρ ⟨dd, .call ⟨.builtin .copy, #[x, y], ts⟩, t, p, af, g⟩ = true) (hx : ev n ρ x = vx) (hy : ev n ρ y = vy)
    (h : ∃ m w1, (Builtin.copy_ ts t #[vx, vy]).run P w = .ok (.int .i64 m) w1 ∧ RL P n sq S ops N rest (put ρ dd (.int .i64 m)) w1) :
    RL P n sq S ops N (.cons ⟨dd, .call ⟨.builtin .copy, #[x, y], ts⟩, t, p, af, g⟩ f' rest) ρ w := by
  obtain ⟨m, w1, hr, h⟩ := h
  refine RL.ef (v := .int .i64 m) (w' := w1) rfl hg ?_ (fun e => by rw [hfl] at e; cases e) h
  simp [execOp, resolve, invoke, builtin, hx, hy, hr]
theorem RL.dl {x y : Operand} {ts : Array TypeId} {vx vy : Value} {dd : Option Nat} (hfl : f' = false) (hg : wanted n ops ρ ⟨dd, .call ⟨.builtin .delete, #[x, y], ts⟩, t, p, af, g⟩ = true) (hx : ev n ρ x = vx) (hy : ev n ρ y = vy)
    (h : ∃ w1, (Builtin.delete_ ts t #[vx, vy]).run P w = .ok (.tuple #[]) w1 ∧ RL P n sq S ops N rest (put ρ dd (.tuple #[])) w1) :
    RL P n sq S ops N (.cons ⟨dd, .call ⟨.builtin .delete, #[x, y], ts⟩, t, p, af, g⟩ f' rest) ρ w := by
  obtain ⟨w1, hr, h⟩ := h
  refine RL.ef (v := .tuple #[]) (w' := w1) rfl hg ?_ (fun e => by rw [hfl] at e; cases e) h
  simp [execOp, resolve, invoke, builtin, hx, hy, hr]
/-- min and max of two numbers. -/
theorem RL.mn {x y : Operand} {ts : Array TypeId} {k : IntKind} {a b : Int} (hg : wanted n ops ρ ⟨some d, .call ⟨.builtin .min, #[x, y], ts⟩, t, p, af, g⟩ = true) (hx : ev n ρ x = .int k a) (hy : ev n ρ y = .int k b)
    (h : RL P n sq S ops N rest (upd ρ d (.int k (if b < a then b else a))) w) : RL P n sq S ops N (.cons ⟨some d, .call ⟨.builtin .min, #[x, y], ts⟩, t, p, af, g⟩ f' rest) ρ w := by
  refine RL.yp (v := .int k (if b < a then b else a)) rfl hg (fun u => ?_) h
  simp [execOp, resolve, invoke, builtin, Builtin.min_, Builtin.min2, hx, hy]
theorem RL.mx {x y : Operand} {ts : Array TypeId} {k : IntKind} {a b : Int} (hg : wanted n ops ρ ⟨some d, .call ⟨.builtin .max, #[x, y], ts⟩, t, p, af, g⟩ = true) (hx : ev n ρ x = .int k a) (hy : ev n ρ y = .int k b)
    (h : RL P n sq S ops N rest (upd ρ d (.int k (if a < b then b else a))) w) : RL P n sq S ops N (.cons ⟨some d, .call ⟨.builtin .max, #[x, y], ts⟩, t, p, af, g⟩ f' rest) ρ w := by
  refine RL.yp (v := .int k (if a < b then b else a)) rfl hg (fun u => ?_) h
  simp [execOp, resolve, invoke, builtin, Builtin.max_, Builtin.max2, hx, hy]
/-- The length of a map. -/
theorem RL.lm {x : Operand} {ty : TypeId} (hg : wanted n ops ρ ⟨some d, .call ⟨.builtin .len, #[x], #[ty]⟩, t, p, af, g⟩ = true) {vm : Value} (m : Int) {kt et : TypeId} (hd : P.underlying ty = some (.map kt et)) (hx : ev n ρ x = vm)
    (h : Rd P w (Builtin.len_ #[ty] t #[vm]) (.int .i64 m) ∧ RL P n sq N0 ops N rest (upd ρ d (.int .i64 m)) w) : RL P n sq N0 ops N (.cons ⟨some d, .call ⟨.builtin .len, #[x], #[ty]⟩, t, p, af, g⟩ f' rest) ρ w := by
  refine RL.yl (v := .int .i64 m) (by simp [cls, hd]) hg (fun u hu => have hu := hu.e; ?_) h.2
  simp [execOp, resolve, invoke, builtin, hx, h.1 u hu]
theorem RL.mk {ty : TypeId} {x y : Operand} {k k' : IntKind} {i j : Int} (hfl : f' = false) (hg : wanted n ops ρ ⟨some d, .makeSlice ty x y, t, p, af, g⟩ = true) (hx : ev n ρ x = .int k i) (hy : ev n ρ y = .int k' j)
    (h : ∃ s w1, (Instr.makeSlice ty (.int k i) (.int k' j)).run P w = .ok (.slice (Sl.base s) s.len s.cap) w1 ∧ RL P n sq S ops N rest (upd ρ d (.slice s.base s.len s.cap)) w1) :
    RL P n sq S ops N (.cons ⟨some d, .makeSlice ty x y, t, p, af, g⟩ f' rest) ρ w := by
  obtain ⟨s, w1, hr, h⟩ := h
  refine RL.ef (v := .slice s.base s.len s.cap) (w' := w1) rfl hg ?_ (fun e => by rw [hfl] at e; cases e) h
  simp [execOp, hx, hy, hr]
/-- A text as bytes in new memory. -/
theorem RL.cB {src dst : TypeId} {x : Operand} {l : Str} {e : TypeId} (hfl : f' = false) (hg : wanted n ops ρ ⟨some d, .convert src dst x, t, p, af, g⟩ = true) (hs : P.underlying src = some .string) (hd : P.underlying dst = some (.slice e)) (hx : ev n ρ x = .string (mkS l))
    (h : ∃ s w1, (convert src dst (.string (mkS l))).run P w = .ok (.slice (Sl.base s) s.len s.cap) w1 ∧ RL P n sq S ops N rest (upd ρ d (.slice s.base s.len s.cap)) w1) :
    RL P n sq S ops N (.cons ⟨some d, .convert src dst x, t, p, af, g⟩ f' rest) ρ w := by
  obtain ⟨s, w1, hr, h⟩ := h
  refine RL.ef (v := .slice s.base s.len s.cap) (w' := w1) (by simp only [cls, hs, hd]) hg ?_ (fun e => by rw [hfl] at e; cases e) h
  simp [execOp, hx, hr]
/-- A pick that is an 'and', an 'or'. -/
theorem RL.pa {c x y : Operand} {b b1 : Bool} (hg : wanted n ops ρ ⟨some d, .pick c x y, t, p, af, g⟩ = true) (hc : ev n ρ c = .bool b) (hx : ev n ρ x = .bool b1) (hy : ev n ρ y = .bool false)
    (h : RL P n sq S ops N rest (upd ρ d (.bool (b && b1))) w) : RL P n sq S ops N (.cons ⟨some d, .pick c x y, t, p, af, g⟩ f' rest) ρ w :=
  RL.yp (v := .bool (b && b1)) rfl hg (fun u => by simp only [execOp, hc, hx, hy]; cases b <;> rfl) h
theorem RL.po {c x y : Operand} {b b2 : Bool} (hg : wanted n ops ρ ⟨some d, .pick c x y, t, p, af, g⟩ = true) (hc : ev n ρ c = .bool b) (hx : ev n ρ x = .bool true) (hy : ev n ρ y = .bool b2)
    (h : RL P n sq S ops N rest (upd ρ d (.bool (b || b2))) w) : RL P n sq S ops N (.cons ⟨some d, .pick c x y, t, p, af, g⟩ f' rest) ρ w :=
  RL.yp (v := .bool (b || b2)) rfl hg (fun u => by simp only [execOp, hc, hx, hy]; cases b <;> rfl) h
theorem wanted_y {j : Nat} {b : Bool} {o : Oper} {e : Nat} (hg : o.guard = some (j, b)) (hj : (ops[j]?).bind (·.dst) = some e) (hv : ev n ρ (.tmp e) = .bool b) : wanted n ops ρ o = true := by
  have hd : yielded ops (act n ρ).tmps j = some b := by
    rw [yielded_act, hj]
    simp only [ev] at hv
    cases hlt : Nat.blt e n
    · rw [hlt] at hv; cases hv
    · rw [hlt] at hv; simp only [cond_true] at hv; simp [hv, hlt]
  unfold wanted Region.wanted; rw [hg]; simp only; rw [hd]; simp
theorem wanted_n {j : Nat} {b b' : Bool} {o : Oper} {e : Nat} (hg : o.guard = some (j, b)) (hj : (ops[j]?).bind (·.dst) = some e) (hv : ev n ρ (.tmp e) = .bool b') (hb : (b' == b) = false) : wanted n ops ρ o = false := by
  have hd : yielded ops (act n ρ).tmps j = some b' := by
    rw [yielded_act, hj]
    simp only [ev] at hv
    cases hlt : Nat.blt e n
    · rw [hlt] at hv; cases hv
    · rw [hlt] at hv; simp only [cond_true] at hv; simp [hv, hlt]
  unfold wanted Region.wanted; rw [hg]; simp only; rw [hd]; cases b <;> cases b' <;> simp_all
theorem uc {ρ ρ' : Env} {e : Nat} {v : Value} (h : ρ = ρ') (hv : ρ.f e = v) : ρ = upd ρ' e v := by
  subst h; obtain ⟨f, ds⟩ := ρ; unfold upd; congr 1; funext s
  cases hb : Nat.beq s e
  · rfl
  · rw [cond_true, ← hv, Nat.eq_of_beq_eq_true hb]
theorem su {N : Post} {ρ ρ' : Env} {w : World} (e : ρ = ρ') (h : N ρ' w) : N ρ w := e ▸ h
theorem W.ct {c : Operand} {x y : Code} {X : Nat → Post} {R : Post} (hc : ev n ρ c = .bool true) (h : W P n ro x N X R ρ w) : W P n ro (.cond c x y) N X R ρ w := wpIn_cond_true (by rw [eval_act]; exact hc) h
theorem W.cf {c : Operand} {x y : Code} {X : Nat → Post} {R : Post} (hc : ev n ρ c = .bool false) (h : W P n ro y N X R ρ w) : W P n ro (.cond c x y) N X R ρ w := wpIn_cond_false (by rw [eval_act]; exact hc) h
/-! ### nil -/
theorem run_eq_ptr {e t : TypeId} (hd : P.underlying t = some (.pointer e)) (o : Option Addr) (m : Nat) (u : World) : (Op.equalIn (m + 1) t (.pointer o) (.pointer none)).run P u = .ok o.isNone u := by
  cases o <;> simp [Op.equalIn, run_underlying hd]
theorem run_eq_slice {e t : TypeId} (hd : P.underlying t = some (.slice e)) (o : Option Addr) (l c m : Nat) (u : World) : (Op.equalIn (m + 1) t (.slice o l c) (.slice none 0 0)).run P u = .ok o.isNone u := by
  cases o <;> simp [Op.equalIn, run_underlying hd]
theorem run_eq_bool {t : TypeId} (hd : P.underlying t = some .bool) (a b : Bool) (m : Nat) (u : World) : (Op.equalIn (m + 1) t (.bool a) (.bool b)).run P u = .ok (a == b) u := by
  simp [Op.equalIn, run_underlying hd]
theorem maxDepth_eq : Op.maxDepth = 9999 + 1 := rfl
theorem binOp_eql {t : TypeId} {x y : Value} (b : Bool) (u : World) (hx : (∀ k a, x ≠ .int k a) ∧ (∀ k a, x ≠ .float k a) ∧ (∀ k a b, x ≠ .complex k a b) ∧ (∀ s, x ≠ .string s)) (h : (Op.equal t x y).run P u = .ok b u) :
    (binOp .eql t x y).run P u = .ok (.bool b) u ∧ (binOp .neq t x y).run P u = .ok (.bool (!b)) u := by
  obtain ⟨h1, h2, h3, h4⟩ := hx
  constructor
  · unfold binOp
    cases x <;> first | exact absurd rfl (h1 _ _) | exact absurd rfl (h2 _ _) | exact absurd rfl (h3 _ _ _) | exact absurd rfl (h4 _) | (simp only [Sem.run_bind, h, Result.andThen_ok, Sem.run_pure])
  · unfold binOp
    cases x <;> first | exact absurd rfl (h1 _ _) | exact absurd rfl (h2 _ _) | exact absurd rfl (h3 _ _ _) | exact absurd rfl (h4 _) | (simp only [Sem.run_bind, h, Result.andThen_ok, Sem.run_pure])
theorem RL.pn {x y : Operand} {xt yt : TypeId} {o : Option Addr} {e : TypeId} (hg : wanted n ops ρ ⟨some d, .binOp .eql xt x y yt, t, p, af, g⟩ = true) (hd : P.underlying xt = some (.pointer e)) (hx : ev n ρ x = .pointer o) (hy : ev n ρ y = .pointer none)
    (h : RL P n sq S ops N rest (upd ρ d (.bool o.isNone)) w) : RL P n sq S ops N (.cons ⟨some d, .binOp .eql xt x y yt, t, p, af, g⟩ f' rest) ρ w := by
  refine RL.yp (v := .bool o.isNone) rfl hg (fun u => ?_) h
  have h1 := (binOp_eql (P := P) (t := xt) (x := .pointer o) (y := .pointer none) o.isNone u (by simp) (by rw [Op.equal, maxDepth_eq]; exact run_eq_ptr hd o 9999 u)).1
  simp only [execOp, hx, hy, eqGuard, Sem.run_bind, Sem.run_pure, Result.andThen_ok, h1]
  simp [h1]
theorem RL.pN {x y : Operand} {xt yt : TypeId} {o : Option Addr} {e : TypeId} (hg : wanted n ops ρ ⟨some d, .binOp .neq xt x y yt, t, p, af, g⟩ = true) (hd : P.underlying xt = some (.pointer e)) (hx : ev n ρ x = .pointer o) (hy : ev n ρ y = .pointer none)
    (h : RL P n sq S ops N rest (upd ρ d (.bool (!o.isNone))) w) : RL P n sq S ops N (.cons ⟨some d, .binOp .neq xt x y yt, t, p, af, g⟩ f' rest) ρ w := by
  refine RL.yp (v := .bool (!o.isNone)) rfl hg (fun u => ?_) h
  have h1 := (binOp_eql (P := P) (t := xt) (x := .pointer o) (y := .pointer none) o.isNone u (by simp) (by rw [Op.equal, maxDepth_eq]; exact run_eq_ptr hd o 9999 u)).2
  simp only [execOp, hx, hy, eqGuard, Sem.run_bind, Sem.run_pure, Result.andThen_ok, h1]
  simp [h1]
theorem RL.sn {x y : Operand} {xt yt : TypeId} {o : Option Addr} {l c : Nat} {e : TypeId} (hg : wanted n ops ρ ⟨some d, .binOp .eql xt x y yt, t, p, af, g⟩ = true) (hd : P.underlying xt = some (.slice e)) (hx : ev n ρ x = .slice o l c) (hy : ev n ρ y = .slice none 0 0)
    (h : RL P n sq S ops N rest (upd ρ d (.bool o.isNone)) w) : RL P n sq S ops N (.cons ⟨some d, .binOp .eql xt x y yt, t, p, af, g⟩ f' rest) ρ w := by
  refine RL.yp (v := .bool o.isNone) rfl hg (fun u => ?_) h
  have h1 := (binOp_eql (P := P) (t := xt) (x := .slice o l c) (y := .slice none 0 0) o.isNone u (by simp) (by rw [Op.equal, maxDepth_eq]; exact run_eq_slice hd o l c 9999 u)).1
  simp only [execOp, hx, hy, eqGuard, Sem.run_bind, Sem.run_pure, Result.andThen_ok, h1]
  simp [h1]
theorem RL.sN {x y : Operand} {xt yt : TypeId} {o : Option Addr} {l c : Nat} {e : TypeId} (hg : wanted n ops ρ ⟨some d, .binOp .neq xt x y yt, t, p, af, g⟩ = true) (hd : P.underlying xt = some (.slice e)) (hx : ev n ρ x = .slice o l c) (hy : ev n ρ y = .slice none 0 0)
    (h : RL P n sq S ops N rest (upd ρ d (.bool (!o.isNone))) w) : RL P n sq S ops N (.cons ⟨some d, .binOp .neq xt x y yt, t, p, af, g⟩ f' rest) ρ w := by
  refine RL.yp (v := .bool (!o.isNone)) rfl hg (fun u => ?_) h
  have h1 := (binOp_eql (P := P) (t := xt) (x := .slice o l c) (y := .slice none 0 0) o.isNone u (by simp) (by rw [Op.equal, maxDepth_eq]; exact run_eq_slice hd o l c 9999 u)).2
  simp only [execOp, hx, hy, eqGuard, Sem.run_bind, Sem.run_pure, Result.andThen_ok, h1]
  simp [h1]
/-- Two truth values. -/
theorem RL.be {x y : Operand} {xt yt : TypeId} {a b : Bool} (hg : wanted n ops ρ ⟨some d, .binOp .eql xt x y yt, t, p, af, g⟩ = true) (hd : P.underlying xt = some .bool) (hx : ev n ρ x = .bool a) (hy : ev n ρ y = .bool b)
    (h : RL P n sq S ops N rest (upd ρ d (.bool (a == b))) w) : RL P n sq S ops N (.cons ⟨some d, .binOp .eql xt x y yt, t, p, af, g⟩ f' rest) ρ w := by
  refine RL.yp (v := .bool (a == b)) rfl hg (fun u => ?_) h
  have h1 := (binOp_eql (P := P) (t := xt) (x := .bool a) (y := .bool b) (a == b) u (by simp) (by rw [Op.equal, maxDepth_eq]; exact run_eq_bool hd a b 9999 u)).1
  simp only [execOp, hx, hy, eqGuard, Sem.run_bind, Sem.run_pure, Result.andThen_ok, h1]
  simp [h1]
theorem RL.bn {x y : Operand} {xt yt : TypeId} {a b : Bool} (hg : wanted n ops ρ ⟨some d, .binOp .neq xt x y yt, t, p, af, g⟩ = true) (hd : P.underlying xt = some .bool) (hx : ev n ρ x = .bool a) (hy : ev n ρ y = .bool b)
    (h : RL P n sq S ops N rest (upd ρ d (.bool (!(a == b)))) w) : RL P n sq S ops N (.cons ⟨some d, .binOp .neq xt x y yt, t, p, af, g⟩ f' rest) ρ w := by
  refine RL.yp (v := .bool (!(a == b))) rfl hg (fun u => ?_) h
  have h1 := (binOp_eql (P := P) (t := xt) (x := .bool a) (y := .bool b) (a == b) u (by simp) (by rw [Op.equal, maxDepth_eq]; exact run_eq_bool hd a b 9999 u)).2
  simp only [execOp, hx, hy, eqGuard, Sem.run_bind, Sem.run_pure, Result.andThen_ok, h1]
  simp [h1]
/-- A guarded operation: both ways. -/
theorem RL.gd {o : Oper} {b : Bool} {e : Nat} (hv : ev n ρ (.tmp e) = .bool b) (ht : b = true → RL P n sq S ops N (.cons o f' rest) (upd ρ e (.bool true)) w) (hf : b = false → RL P n sq S ops N (.cons o f' rest) (upd ρ e (.bool false)) w) : RL P n sq S ops N (.cons o f' rest) ρ w := by
  have hr : ρ.f e = .bool b := by
    simp only [ev] at hv
    cases hlt : Nat.blt e n
    · rw [hlt] at hv; cases hv
    · rw [hlt] at hv; exact hv
  have he : upd ρ e (.bool b) = ρ := (uc rfl hr).symm
  cases b
  · rw [← he]; exact hf rfl
  · rw [← he]; exact ht rfl
theorem wanted_u {j : Nat} {b : Bool} {o : Oper} {e : Nat} (hg : o.guard = some (j, b)) (hj : (ops[j]?).bind (·.dst) = some e) (hv : ev n ρ (.tmp e) = undef) : wanted n ops ρ o = false := by
  have hd : yielded ops (act n ρ).tmps j = none := by
    rw [yielded_act, hj]
    simp only [ev] at hv
    cases hlt : Nat.blt e n
    · simp [hlt]
    · rw [hlt] at hv; simp only [cond_true] at hv; simp [hv, undef]
  unfold wanted Region.wanted; rw [hg]; simp only; rw [hd]; cases b <;> rfl
/-- The value of a call's result is put for what it is. -/
theorem RL.sv {d : Option Nat} {v v' : Value} (e : v = v') (h : RL P n sq S ops N rest (put ρ d v') w) : RL P n sq S ops N rest (put ρ d v) w := e ▸ h
/-- A function of the library without a text of its own. -/
theorem RL.xt {f : FuncId} {as_ : Array Operand} {ts : Array TypeId} {va : List Value} {dd : Option Nat} (v : Value) (hg : wanted n ops ρ ⟨dd, .call ⟨.value (.func f), as_, ts⟩, t, p, af, g⟩ = true) (ha : as_.toList.map (ev n ρ) = va)
    (h : (∀ u, (callFunc f va.toArray).run P u = .ok (.value v) u) ∧ RL P n sq S ops N rest (put ρ dd v) w) : RL P n sq S ops N (.cons ⟨dd, .call ⟨.value (.func f), as_, ts⟩, t, p, af, g⟩ f' rest) ρ w := by
  refine RL.ef (v := v) (w' := w) rfl hg ?_ (fun _ => Exs.refl w) h.2
  have h1 : as_.map (ev n ρ) = va.toArray := Array.ext' (by simpa using ha)
  simp [execOp, resolve, Deferred.ofValue, invoke, ev, h1, h.1]
/-! ### Equality of structs -/
def partV (P : Program) (t : TypeId) (cs : Array Value) (off : Nat) : Option Value :=
  match (P.underlying t).map aggD, (P.info? t).map (·.size) with
  | some true, some s => some (.agg (cs.extract off (off + s)))
  | some false, _ => cs[off]?
  | _, _ => none
def eqFs (P : Program) (c : TypeId → Value → Value → Option Bool) (xs ys : Array Value) : List Field → Option Bool
  | [] => some true
  | f :: r => bif f.name == "_" then none else
    match partV P f.type xs f.offset, partV P f.type ys f.offset with
    | some x, some y => (match c f.type x y, eqFs P c xs ys r with
      | some a, some b => some (a && b)
      | _, _ => none)
    | _, _ => none
def eqV (P : Program) : Nat → TypeId → Value → Value → Option Bool
  | 0, _, _, _ => none
  | d + 1, t, x, y =>
    match P.underlying t, x, y with
    | some .bool, .bool a, .bool b => some (a == b)
    | some (.int _), .int k a, .int k' b => if k = k' then some (a == b) else none
    | some .string, .string a, .string b => some (a.data.toList == b.data.toList)
    | some (.struct fs), .agg xs, .agg ys => bif P.stoodInHeld t then none else eqFs P (eqV P d) xs ys fs.toList
    | _, _, _ => none
theorem run_partV {P : Program} {t : TypeId} {cs : Array Value} {off : Nat} {v : Value} (h : partV P t cs off = some v) (u : World) : (part t cs off).run P u = .ok v u := by
  unfold partV at h
  split at h
  · rename_i h1 h2
    cases h
    have hz : Sz P t _ := h2
    simp only [part, Sem.run_bind, run_isAgg_agg ⟨h1, hz⟩, Result.andThen_ok, if_true, run_sizeOf hz, Sem.run_pure]
  · rename_i h1
    obtain ⟨d, hd, h2⟩ := Option.map_eq_some_iff.1 h1
    have : (isAgg t).run P u = .ok false u := by
      simp only [isAgg, Sem.run_bind, run_underlying hd, Result.andThen_ok]; cases d <;> first | rfl | exact (Bool.noConfusion h2)
    simp only [part, Sem.run_bind, this, Result.andThen_ok, Bool.false_eq_true, if_false, h, Sem.run_pure]
  · cases h
theorem beq_bytes (a b : ByteArray) : (a == b) = (a.data.toList == b.data.toList) := by
  cases a with | mk a => cases b with | mk b => cases a; cases b; exact List.beq_toArray ..
theorem run_eqV {P : Program} : ∀ (d : Nat) (t : TypeId) (x y : Value) (b : Bool), eqV P d t x y = some b → ∀ m u, (Op.equalIn (d + m) t x y).run P u = .ok b u
  | 0, _, _, _, _, h, _, _ => by cases h
  | d + 1, t, x, y, b, h, m, u => by
    rw [Nat.add_right_comm]
    unfold eqV at h
    split at h
    · rename_i hd; cases h; simp [Op.equalIn, run_underlying hd]
    · rename_i hd
      split at h
      · rename_i hk; cases h; simp [Op.equalIn, run_underlying hd, hk]
      · cases h
    · rename_i hd; cases h; simp [Op.equalIn, run_underlying hd, beq_bytes]
    · rename_i fs xs ys hd
      cases hs : P.stoodInHeld t
      case true => rw [hs] at h; cases h
      case false =>
      rw [hs, cond_false] at h
      unfold Op.equalIn
      simp only [Sem.run_bind, run_underlying hd, Result.andThen_ok, run_program, hs, Bool.false_eq_true, if_false]
      rw [← Array.forIn_toList]
      have key : ∀ (l : List Field) (b : Bool), eqFs P (eqV P d) xs ys l = some b → ∀ (g : Field → Option Bool × Unit → Sem (ForInStep (Option Bool × Unit))),
          (∀ f s, g f s = (if f.name ≠ "_" then do
              let x ← part f.type xs f.offset
              let y ← part f.type ys f.offset
              let r ← Op.equalIn (d + m) f.type x y
              if (!r) = true then pure (ForInStep.done (some false, ())) else pure (ForInStep.yield (none, ()))
            else pure (ForInStep.yield (none, ())) : Sem (ForInStep (Option Bool × Unit)))) → ∀ u,
          (forIn l ((none, ()) : Option Bool × Unit) g).run P u = .ok (if b then none else some false, ()) u := by
        intro l
        induction l with
        | nil => intro b hb g hg u; simp only [eqFs, Option.some.injEq] at hb; subst hb; rfl
        | cons f l ih =>
          intro b hb g hg u
          unfold eqFs at hb
          cases hn : f.name == "_"
          case true => rw [hn] at hb; cases hb
          case false =>
          rw [hn, cond_false] at hb
          split at hb
          case h_2 => cases hb
          case h_1 x y hx hy =>
          split at hb
          case h_2 => cases hb
          case h_1 b1 b2 h1 h2 =>
          cases hb
          have hn' : f.name ≠ "_" := by simpa using hn
          simp only [List.forIn_cons, Sem.run_bind, hg, hn', ne_eq, not_false_eq_true, if_true, run_partV hx, run_partV hy, run_eqV d _ _ _ _ h1 m, Result.andThen_ok]
          cases b1
          · rfl
          · simp only [Bool.not_true, Bool.false_eq_true, if_false, Sem.run_pure, Result.andThen_ok, Bool.true_and]
            exact ih b2 h2 g hg u
      rw [key fs.toList b h _ (fun f s => rfl) u]
      simp only [Result.andThen_ok]
      cases b <;> rfl
    · cases h
theorem run_equal {P : Program} {d : Nat} {t : TypeId} {x y : Value} {b : Bool} (h : eqV P d t x y = some b) (hd : d ≤ 10000) (u : World) : (Op.equal t x y).run P u = .ok b u := by
  have := run_eqV d t x y b h (10000 - d) u
  rwa [show d + (10000 - d) = Op.maxDepth from by unfold Op.maxDepth; omega] at this
theorem run_eqG {P : Program} {op : BinOp} {t : TypeId} {x y : Operand} {xs ys : Array Value} (h : P.eqGuardType P.depth t = false) (u : World) : (eqGuard op t x y (.agg xs) (.agg ys)).run P u = .ok () u := by
  unfold eqGuard
  cases op <;> simp [h]
theorem RL.ea {x y : Operand} {xt yt : TypeId} {xs ys : List Value} {b : Bool} (dd : Nat) (hdd : dd ≤ 10000) (hg : wanted n ops ρ ⟨some d, .binOp .eql xt x y yt, t, p, af, g⟩ = true) (hgt : P.eqGuardType P.depth xt = false) (hx : ev n ρ x = .agg xs.toArray) (hy : ev n ρ y = .agg ys.toArray)
    (he : eqV P dd xt (.agg xs.toArray) (.agg ys.toArray) = some b) (h : RL P n sq S ops N rest (upd ρ d (.bool b)) w) : RL P n sq S ops N (.cons ⟨some d, .binOp .eql xt x y yt, t, p, af, g⟩ f' rest) ρ w := by
  refine RL.yp (v := .bool b) rfl hg (fun u => ?_) h
  have h1 := (binOp_eql (P := P) (t := xt) (x := .agg xs.toArray) (y := .agg ys.toArray) b u (by simp) (run_equal he hdd u)).1
  simp only [execOp, hx, hy, Sem.run_bind, run_eqG hgt, Result.andThen_ok, h1, Sem.run_pure]
theorem RL.eN {x y : Operand} {xt yt : TypeId} {xs ys : List Value} {b : Bool} (dd : Nat) (hdd : dd ≤ 10000) (hg : wanted n ops ρ ⟨some d, .binOp .neq xt x y yt, t, p, af, g⟩ = true) (hgt : P.eqGuardType P.depth xt = false) (hx : ev n ρ x = .agg xs.toArray) (hy : ev n ρ y = .agg ys.toArray)
    (he : eqV P dd xt (.agg xs.toArray) (.agg ys.toArray) = some b) (h : RL P n sq S ops N rest (upd ρ d (.bool (!b))) w) : RL P n sq S ops N (.cons ⟨some d, .binOp .neq xt x y yt, t, p, af, g⟩ f' rest) ρ w := by
  refine RL.yp (v := .bool (!b)) rfl hg (fun u => ?_) h
  have h1 := (binOp_eql (P := P) (t := xt) (x := .agg xs.toArray) (y := .agg ys.toArray) b u (by simp) (run_equal he hdd u)).2
  simp only [execOp, hx, hy, Sem.run_bind, run_eqG hgt, Result.andThen_ok, h1, Sem.run_pure]
end
end Go.V
