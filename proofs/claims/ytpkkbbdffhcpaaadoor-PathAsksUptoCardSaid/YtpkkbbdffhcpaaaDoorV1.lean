/- An engine for walking a function's operations: the frame as a function from slots to values. -/
import Derived.WalkKit
import Derived.OrdersHeld
import Derived.RangeFuncLeaves
import Derived.TacticsIn
import Derived.WalkLawsBesides
namespace Go.V
open Go.RowKit

/-- A frame: its slots, and what it has deferred. -/
structure Env where
  f : Nat → Value
  ds : List Deferred
def upd (ρ : Env) (d : Nat) (v : Value) : Env := ⟨fun t => bif Nat.beq t d then v else ρ.f t, ρ.ds⟩
def put (ρ : Env) (d : Option Nat) (v : Value) : Env := match d with | some d => upd ρ d v | none => ρ
def act (n : Nat) (ρ : Env) : Act := { tmps := Array.ofFn (fun i : Fin n => ρ.f i), defers := ρ.ds }
def ev (n : Nat) (ρ : Env) : Operand → Value
  | .tmp t => bif Nat.blt t n then ρ.f t else undef
  | .const v => v
  | .global g => .pointer (some ⟨g, 0, none⟩)
  | .func f => .func (.func f) #[] #[]
def nth : List Value → Nat → Value
  | [], _ => undef
  | v :: _, 0 => v
  | _ :: l, n + 1 => nth l n

theorem eval_act (n : Nat) (ρ : Env) (x : Operand) : (act n ρ).eval x = ev n ρ x := by
  cases x with
  | tmp t =>
    simp only [Act.eval, act, ev]
    by_cases h : t < n
    · have hb : Nat.blt t n = true := by simpa using h
      simp [hb, h]
    · have hb : Nat.blt t n = false := by cases hh : Nat.blt t n
                                          · rfl
                                          · exact absurd (by simpa using hh) h
      simp [hb, h]
  | const v => rfl
  | global g => rfl
  | func f => rfl

theorem eval_act' (n : Nat) (ρ : Env) : (act n ρ).eval = ev n ρ := funext (eval_act n ρ)

theorem put_act (n : Nat) (ρ : Env) (d : Option Nat) (v : Value) : (act n ρ).put d v = act n (put ρ d v) := by
  cases d with
  | none => rfl
  | some d =>
    simp only [Act.put, act, put, upd]
    congr 1
    apply Array.ext
    · simp
    · intro i h1 h2
      simp only [Array.size_ofFn] at h2
      rw [Array.getElem_setIfInBounds (by simpa using h2)]
      simp only [Array.getElem_ofFn]
      by_cases h : d = i
      · subst h; simp
      · have : Nat.beq i d = false := by
          cases hb : Nat.beq i d
          · rfl
          · exact absurd (Nat.eq_of_beq_eq_true hb).symm h
        simp [h, this]

theorem yielded_act (n : Nat) (ρ : Env) (ops : Array Oper) (j : Nat) :
    yielded ops (act n ρ).tmps j = match (ops[j]?).bind (·.dst) with
      | some d => (bif Nat.blt d n then (match ρ.f d with | .bool b => some b | _ => none) else none)
      | none => none := by
  unfold yielded
  cases (ops[j]?).bind (·.dst) with
  | none => rfl
  | some d =>
    simp only [Option.bind_some, act]
    by_cases h : d < n
    · have hb : Nat.blt d n = true := by simpa using h
      simp [hb, h]
      split
      · rename_i heq; simp only [Option.some.injEq] at heq; simp [heq]
      · rename_i heq
        split
        · rename_i heq2; exact absurd (by rw [heq2]) (heq _)
        · rfl
    · have hb : Nat.blt d n = false := by cases hh : Nat.blt d n
                                          · rfl
                                          · exact absurd (by simpa using hh) h
      simp [hb, h]

abbrev Post := Env → World → Prop

/-- What is asked at the ends of a piece of code: it went through (N), it left for a block's end (X), for a label (X at odd numbers), it returned (R). -/
def QQ (n : Nat) (N : Post) (X : Nat → Post) (R : Post) : Exit → Act → World → Prop
  | .normal, a, w => ∃ ρ, a = act n ρ ∧ N ρ w
  | .exit j, a, w => ∃ ρ, a = act n ρ ∧ X (2 * j) ρ w
  | .goto l, a, w => ∃ ρ, a = act n ρ ∧ X (2 * l + 1) ρ w
  | .ret, a, w => ∃ ρ, a = act n ρ ∧ R ρ w
  | _, _, _ => False

/-- No fence; in a round of the loop ro, or in none. -/
def fw (ro : Option Nat) : Fence := { Fence.wide with round := ro }
theorem fw_fn (ro : Option Nat) (f : FuncId) : (fw ro).fn f := trivial
theorem fw_room (ro : Option Nat) (k : Nat) : (fw ro).room k := fun _ h => by simp [fw, Fence.wide] at h
theorem fw_depth (ro : Option Nat) (k : Nat) : (fw ro).depth.isSome = true → 1 ≤ k := fun h => by simp [fw, Fence.wide] at h

def W (P : Program) (n : Nat) (ro : Option Nat) (c : Code) (N : Post) (X : Nat → Post) (R : Post) (ρ : Env) (w : World) : Prop :=
  c.wpIn (fw ro) 0 P (QQ n N X R) (act n ρ) w

/-- No exit by a block's end. -/
def X0 : Nat → Post := fun _ _ _ => False
def XB (id : Nat) (N : Post) (X : Nat → Post) : Nat → Post := fun j ρ w => bif Nat.beq j (2 * id) then N ρ w else X j ρ w

section
variable {P : Program}
/-- A call, asked for what becomes of it. -/
def Cl (P : Program) (f : FuncId) (args : List Value) (w : World) (k : Value → World → Prop) : Prop :=
  Calls P f args.toArray w fun e w' => ∃ v, e = .returned v ∧ k v w'
theorem Cl.mono {f : FuncId} {args : List Value} {w : World} {k k' : Value → World → Prop} (h : Cl P f args w k) (hk : ∀ v w', k v w' → k' v w') : Cl P f args w k' :=
  Calls.mono h fun _ _ ⟨v, e, h⟩ => ⟨v, e, hk _ _ h⟩

end
section
variable {P : Program} {n : Nat} {ro : Option Nat} {N N' : Post} {X X' : Nat → Post} {R R' : Post} {ρ : Env} {w : World}

theorem QQ_mono (hN : ∀ ρ w, N ρ w → N' ρ w) (hX : ∀ j ρ w, X j ρ w → X' j ρ w) (hR : ∀ ρ w, R ρ w → R' ρ w) (e : Exit) (a : Act) (w : World)
    (h : QQ n N X R e a w) : QQ n N' X' R' e a w := by
  cases e <;> simp only [QQ] at h ⊢
  · obtain ⟨ρ, e, h⟩ := h; exact ⟨ρ, e, hN _ _ h⟩
  · obtain ⟨ρ, e, h⟩ := h; exact ⟨ρ, e, hX _ _ _ h⟩
  · obtain ⟨ρ, e, h⟩ := h; exact ⟨ρ, e, hX _ _ _ h⟩
  · obtain ⟨ρ, e, h⟩ := h; exact ⟨ρ, e, hR _ _ h⟩

theorem W.mono {c : Code} (hN : ∀ ρ w, N ρ w → N' ρ w) (hX : ∀ j ρ w, X j ρ w → X' j ρ w) (hR : ∀ ρ w, R ρ w → R' ρ w) (h : W P n ro c N X R ρ w) : W P n ro c N' X' R' ρ w :=
  wpIn_mono h (QQ_mono hN hX hR)

theorem W.sk (h : N ρ w) : W P n ro .skip N X R ρ w := wpIn_skip ⟨ρ, rfl, h⟩
theorem W.rt (h : R ρ w) : W P n ro .ret N X R ρ w := wpIn_ret ⟨ρ, rfl, h⟩
theorem W.ex {j : Nat} (h : X (2 * j) ρ w) : W P n ro (.exit j) N X R ρ w := wpIn_exit ⟨ρ, rfl, h⟩
theorem W.gt {j : Nat} (h : X (2 * j + 1) ρ w) : W P n ro (.goto j) N X R ρ w := wpIn_goto ⟨ρ, rfl, h⟩
theorem W.lb {l : Nat} (h : N ρ w) : W P n ro (.label l) N X R ρ w := wpIn_label ⟨ρ, rfl, h⟩
theorem W.sq {x y : Code} (h : W P n ro x (W P n ro y N X R) X R ρ w) : W P n ro (.seq x y) N X R ρ w := by
  refine wpIn_seq (wpIn_mono h ?_)
  intro e a w h
  cases e <;> simp only [QQ, Exit.then] at h ⊢
  · obtain ⟨ρ, rfl, h⟩ := h; exact h
  all_goals exact h
theorem beq_ne {a b : Nat} (h : a ≠ b) : Nat.beq a b = false := by
  cases hb : Nat.beq a b
  · rfl
  · exact absurd (Nat.eq_of_beq_eq_true hb) h
theorem W.bl {id : Nat} {c : Code} (h : W P n ro c N (XB id N X) R ρ w) : W P n ro (.block id c) N X R ρ w := by
  refine wpIn_block (wpIn_mono h ?_)
  intro e a w h
  cases e with
  | exit j =>
    simp only [QQ, Exit.inBlock, XB] at h ⊢
    obtain ⟨ρ, rfl, h⟩ := h
    by_cases hj : j = id
    · subst hj
      simp only [if_true] at h ⊢
      have : Nat.beq (2 * j) (2 * j) = true := by simp
      rw [this] at h
      exact ⟨ρ, rfl, h⟩
    · rw [if_neg hj]
      rw [beq_ne (by omega)] at h
      exact ⟨ρ, rfl, h⟩
  | goto l =>
    simp only [QQ, Exit.inBlock, XB] at h ⊢
    obtain ⟨ρ, rfl, h⟩ := h
    rw [beq_ne (by omega)] at h
    exact ⟨ρ, rfl, h⟩
  | normal => exact h
  | ret => exact h
  | panic c => exact h
  | outgrown => exact h
theorem W.cd {c : Operand} {x y : Code} {b : Bool} (hc : ev n ρ c = .bool b) (h : (b = true → W P n ro x N X R ρ w) ∧ (b = false → W P n ro y N X R ρ w)) :
    W P n ro (.cond c x y) N X R ρ w :=
  wpIn_cond_split (t := b) (by rw [eval_act]; exact hc) h.1 h.2
theorem W.jn {c : Code} (hN : ∀ ρ w, N' ρ w → N ρ w) (h : W P n ro c N' (X) R ρ w) : W P n ro c N X R ρ w := W.mono hN (fun _ _ _ h => h) (fun _ _ h => h) h
theorem wp_loop_ix {Q : Exit → Act → World → Prop} {a : Act} {c : Code} (I : Nat → Act → World → Prop) (h₀ : ∃ m, I m a w)
    (round : ∀ m a w, I m a w → c.wpIn (fw ro) 0 P (Exit.then (fun a' w' => ∃ m', m' < m ∧ I m' a' w') Q) a w) : (Code.loop c).wpIn (fw ro) 0 P Q a w := by
  intro b k cs hro hb hr
  have key : ∀ m a w, I m a w →
      ∃ e a' w', Q e a' w' ∧ ArrivesIn (Machine.fenced P (fw ro)) P (lone (b.atR a (.code c :: .inLoop c :: k)) cs w) b k cs e a' w' := by
    intro n
    induction n using Nat.strongRecOn with
    | _ n ih =>
      intro a w hI
      obtain ⟨e, a₁, w₁, hq, harr⟩ := round n a w hI b (.inLoop c :: k) cs hro hb hr
      cases e with
      | normal =>
        obtain ⟨m', hlt, hI₁⟩ := hq
        obtain ⟨e₂, a₂, w₂, hq₂, harr₂⟩ := ih m' hlt a₁ w₁ hI₁
        exact ⟨e₂, a₂, w₂, hq₂, .of_steps (StepsIn.trans harr (.one (fenced_calm hb hr rfl) stepR_inLoop)) harr₂⟩
      | exit id => exact ⟨_, a₁, w₁, hq, .pass (x := .inLoop c) rfl (fun _ _ => .inl (by simp)) harr⟩
      | goto l => exact ⟨_, a₁, w₁, hq, .pass (x := .inLoop c) rfl (fun _ _ => .inl (by simp)) harr⟩
      | ret => exact ⟨_, a₁, w₁, hq, .pass (x := .inLoop c) rfl (fun _ _ => .inl (by simp)) harr⟩
      | panic ch => exact ⟨_, a₁, w₁, hq, .pass (x := .inLoop c) rfl (fun _ _ => .inl (by simp)) harr⟩
      | outgrown => exact ⟨_, a₁, w₁, hq, .pass (x := .inLoop c) rfl (fun _ _ => .inl (by simp)) harr⟩
  obtain ⟨m, h₀⟩ := h₀
  obtain ⟨e, a', w', hq, harr⟩ := key _ a w h₀
  exact ⟨e, a', w', hq, .of_steps (.one (fenced_calm hb hr rfl) stepR_loop) harr⟩
/-- A loop: a relation that counts down. -/
theorem W.lp {c : Code} (J : Nat → Post) (h0 : ∃ m, J m ρ w) (h : ∀ m ρ w, J m ρ w → W P n ro c (fun ρ w => ∃ m', m' < m ∧ J m' ρ w) X R ρ w) : W P n ro (.loop c) N X R ρ w := by
  refine wp_loop_ix (fun m a w => ∃ ρ, a = act n ρ ∧ J m ρ w) ?_ ?_
  · obtain ⟨m, h0⟩ := h0; exact ⟨m, ρ, rfl, h0⟩
  · rintro m a w ⟨ρ, rfl, hJ⟩
    refine wpIn_mono (h m ρ w hJ) ?_
    intro e a w h
    cases e <;> simp only [QQ, Exit.then] at h ⊢
    · obtain ⟨ρ, rfl, m', hm, h⟩ := h; exact ⟨m', hm, ρ, rfl, h⟩
    all_goals exact h
end

/-! ### Regions -/
/-- The world u holds all blocks of w as they are in w. -/
def Ext (w u : World) : Prop := w.heap.size ≤ u.heap.size ∧ ∀ b, b < w.heap.size → u.heap[b]? = w.heap[b]?
theorem Ext.refl (w : World) : Ext w w := ⟨Nat.le_refl _, fun _ _ => rfl⟩
theorem Ext.trans {a b c : World} (h : Ext a b) (k : Ext b c) : Ext a c := ⟨Nat.le_trans h.1 k.1, fun i hi => (k.2 i (Nat.lt_of_lt_of_le hi h.1)).trans (h.2 i hi)⟩
theorem Ext.cell {w u : World} (h : Ext w u) {a : Addr} {v : Value} (hc : w.cell? a = some v) : u.cell? a = some v := by
  have hb := World.block_lt_of_cell? w a hc
  unfold World.cell? at hc ⊢
  rw [h.2 _ hb]; exact hc
theorem Ext.alloc (w : World) (o : Obj) : Ext w (w.alloc o) := ⟨by simp, fun b hb => Below.heap_alloc w o b hb⟩
/-- Likewise, but for the blocks of S. -/
def Exs (S : Nat → Prop) (w u : World) : Prop := w.heap.size ≤ u.heap.size ∧ ∀ b, b < w.heap.size → ¬ S b → u.heap[b]? = w.heap[b]?
def N0 : Nat → Prop := fun _ => False
theorem Exs.refl {S : Nat → Prop} (w : World) : Exs S w w := ⟨Nat.le_refl _, fun _ _ _ => rfl⟩
theorem Exs.trans {S : Nat → Prop} {a b c : World} (h : Exs S a b) (k : Exs S b c) : Exs S a c := ⟨Nat.le_trans h.1 k.1, fun i hi hs => (k.2 i (Nat.lt_of_lt_of_le hi h.1) hs).trans (h.2 i hi hs)⟩
theorem Ext.s {S : Nat → Prop} {w u : World} (h : Ext w u) : Exs S w u := ⟨h.1, fun b hb _ => h.2 b hb⟩
theorem Exs.e {w u : World} (h : Exs N0 w u) : Ext w u := ⟨h.1, fun b hb => h.2 b hb (fun f => f)⟩
theorem Exs.cell {S : Nat → Prop} {w u : World} (h : Exs S w u) {a : Addr} {v : Value} (hs : ¬ S a.block) (hc : w.cell? a = some v) : u.cell? a = some v := by
  have hb := World.block_lt_of_cell? w a hc
  unfold World.cell? at hc ⊢
  rw [h.2 _ hb hs]; exact hc
theorem Ext.drew (w : World) : Ext w w.drew := Ext.refl w

/-- What an operation may do: 0 it only reckons; 1 it reads memory; 2 it makes or writes memory, or calls. -/
def cls (P : Program) : Op → Nat
  | .move _ | .assign _ | .pick .. | .build .. | .nilCheck _ | .binOp .. | .unOp .. | .makeFunc .. | .makeInterface .. | .slice .. | .fieldAddr .. | .field .. | .indexAddr .. | .index .. | .extract .. => 0
  | .load .. | .lookup .. => 1
  | .convert s d _ => match P.underlying s, P.underlying d with
    | some .string, some (.slice _) => 2
    | some (.slice _), _ => 1
    | _, _ => 0
  | .call ⟨.builtin .len, _, ts⟩ => match ts[0]? with
    | some t => (match P.underlying t with | some (.map _ _) => 1 | _ => 0)
    | none => 2
  | .call ⟨.builtin .min, _, _⟩ | .call ⟨.builtin .max, _, _⟩ => 0
  | _ => 2

/-- An operation is carried out: its guard, if it has one, says so. -/
def wanted (n : Nat) (ops : Array Oper) (ρ : Env) (o : Oper) : Bool := Region.wanted o (yielded ops (act n ρ).tmps)

/-- Operations as they are met; where several may come first: each of them. The mark: what is there must stay as it is. -/
inductive OT where
  | nil
  | cons (o : Oper) (f : Bool) (t : OT)
  | fork (a b : OT)
def OT.ofList : List Oper → OT
  | [] => .nil
  | o :: l => .cons o false (OT.ofList l)

/-- A call of a loop's own function: its body goes round once. -/
def Yd (P : Program) (l : Nat) (args : List Value) (w : World) (k : Value → World → Prop) : Prop :=
  ∃ r, w.heap[l]? = some (.loop r) ∧ args.length = r.params.size ∧
    RoundIn (fw none) 0 P l r.fn ((r.params.zip args.toArray).foldl (fun tmps (t, a) => tmps.setIfInBounds t a) r.tmps) r.assign r.body w fun e w' => ∃ v, e = .returned v ∧ k v w'

inductive RL (P : Program) (n : Nat) (sq : Bool) (S : Nat → Prop) (ops : Array Oper) (N : Post) : OT → Env → World → Prop
  | dn {ρ : Env} {w : World} : N ρ w → RL P n sq S ops N .nil ρ w
  | yp {o : Oper} {f : Bool} {rest : OT} {ρ : Env} {w : World} {v : Value} : cls P o.op = 0 → wanted n ops ρ o = true → (∀ u, (execOp (ev n ρ) o).run P u = .ok (.value v) u) →
      RL P n sq S ops N rest (put ρ o.dst v) w → RL P n sq S ops N (.cons o f rest) ρ w
  | yl {o : Oper} {f : Bool} {rest : OT} {ρ : Env} {w : World} {v : Value} : cls P o.op = 1 → wanted n ops ρ o = true → (∀ u, Exs S w u → (execOp (ev n ρ) o).run P u = .ok (.value v) u) →
      RL P n sq S ops N rest (put ρ o.dst v) w → RL P n sq S ops N (.cons o f rest) ρ w
  | ef {o : Oper} {f : Bool} {rest : OT} {ρ : Env} {w w' : World} {v : Value} : cls P o.op = 2 → wanted n ops ρ o = true → (execOp (ev n ρ) o).run P w = .ok (.value v) w' → (f = true → Exs S w w') →
      RL P n sq S ops N rest (put ρ o.dst v) w' → RL P n sq S ops N (.cons o f rest) ρ w
  | es {o : Oper} {f : Bool} {rest : OT} {ρ : Env} {w w' : World} : cls P o.op = 2 → wanted n ops ρ o = true → (execOp (ev n ρ) o).run P w = .ok .skip w' → (f = true → Exs S w w') →
      RL P n sq S ops N rest (put ρ o.dst undef) w' → RL P n sq S ops N (.cons o f rest) ρ w
  | cl {o : Oper} {f : Bool} {rest : OT} {ρ : Env} {w : World} {g : FuncId} {args : List Value} {M : Value → World → Prop} : cls P o.op = 2 → wanted n ops ρ o = true → (execOp (ev n ρ) o).run P w = .ok (.enter g args.toArray) w →
      Cl P g args w M → (∀ v w', M v w' → (f = true → Exs S w w')) → (∀ v w', M v w' → RL P n sq S ops N rest (put ρ o.dst v) w') → RL P n sq S ops N (.cons o f rest) ρ w
  | rd {o : Oper} {f : Bool} {rest : OT} {ρ : Env} {w : World} {l : Nat} {fn : FuncId} {tmps : Array Value} {as_ body : Code} {M : Value → World → Prop} : sq = true → wanted n ops ρ o = true → (∀ c, o.op ≠ .defer c) → (execOp (ev n ρ) o).run P w = .ok (.round l fn tmps as_ body) w →
      RoundIn (fw none) 0 P l fn tmps as_ body w (fun e w' => ∃ v, e = .returned v ∧ M v w') → (∀ v w', M v w' → RL P n sq S ops N rest (put ρ o.dst v) w') → RL P n sq S ops N (.cons o f rest) ρ w
  | gn {o : Oper} {f : Bool} {rest : OT} {ρ : Env} {w : World} : wanted n ops ρ o = false → RL P n sq S ops N rest (put ρ o.dst undef) w → RL P n sq S ops N (.cons o f rest) ρ w
  | fk {a b : OT} {ρ : Env} {w : World} : RL P n sq S ops N a ρ w → RL P n sq S ops N b ρ w → RL P n sq S ops N (.fork a b) ρ w

section
variable {P : Program} {n : Nat} {sq : Bool} {S : Nat → Prop} {ro : Option Nat} {N N' : Post} {X X' : Nat → Post} {R R' : Post} {ops : Array Oper}

theorem no_defer {ρ : Operand → Value} {o : Oper} {w w' : World} {x : Next} (h : (execOp ρ o).run P w = .ok x w') (hx : ∀ d, x ≠ .defer d) : ∀ c, o.op ≠ .defer c := by
  intro c hc
  unfold execOp at h
  simp only [hc, Sem.run_bind, Sem.run_pure] at h
  cases hr : (resolve ρ c o.type).run P w with
  | ok d w1 => rw [hr] at h; simp only [Result.andThen_ok, Result.ok.injEq] at h; exact hx d h.1.symm
  | halt a w1 => rw [hr] at h; simp [Result.andThen] at h
theorem calls_fw {ro : Option Nat} {m : Nat} {f : FuncId} {args : Array Value} {w : World} {R : Ending → World → Prop} (h : Calls P f args w R) : CallsIn (fw ro) m P f args w R := by
  have h1 : CallsIn Fence.wide m P f args w R := callsIn_wide.2 h
  exact ⟨trivial, fun cs hr => h1.2 cs (room_wide _)⟩
theorem round_fw {ro : Option Nat} {l : Nat} {fn : FuncId} {tmps : Array Value} {as_ body : Code} {w : World} {R : Ending → World → Prop} (h : RoundIn (fw none) 0 P l fn tmps as_ body w R) (m : Nat) : RoundIn (fw ro) m P l fn tmps as_ body w R :=
  ⟨trivial, fun c cs _ => h.2 c cs (fw_room _ _)⟩
theorem RL.seq {l : List Oper} {ρ : Env} {w : World} (h : RL P n sq S ops N (OT.ofList l) ρ w) : wpListIn (fw ro) 0 P ops (QQ n N X R) l (act n ρ) w := by
  have step : ∀ {o : Oper} {rest : List Oper} {ρ : Env} {w : World} {x : Next} {w' : World}, wanted n ops ρ o = true → (execOp (ev n ρ) o).run P w = .ok x w' → (∀ d, x ≠ .defer d) → o.uponIn (fw ro) 0 P (act n ρ) (wpListIn (fw ro) 0 P ops (QQ n N X R) rest) (QQ n N X R) (.ok x w') →
      wpListIn (fw ro) 0 P ops (QQ n N X R) (o :: rest) (act n ρ) w := by
    intro o rest ρ w x w' hw hr hx h
    unfold wanted at hw; unfold wpListIn; rw [if_pos hw]
    refine ⟨fun f _ => trivial, ?_⟩
    rw [Oper.semAt_eq _ _ _ (no_defer hr hx), eval_act', hr]
    exact h
  generalize ht : OT.ofList l = t at h
  induction h generalizing l with
  | dn h => cases l <;> simp only [OT.ofList, reduceCtorEq] at ht; exact ⟨_, rfl, h⟩
  | fk _ _ => cases l <;> simp only [OT.ofList, reduceCtorEq] at ht
  | yp _ hw hr _ ih =>
    cases l <;> simp only [OT.ofList, reduceCtorEq, OT.cons.injEq] at ht
    obtain ⟨rfl, rfl, rfl⟩ := ht
    refine step hw (hr _) (by simp) ?_; rw [Oper.uponIn_value, put_act]; exact ih rfl
  | yl _ hw hr _ ih =>
    cases l <;> simp only [OT.ofList, reduceCtorEq, OT.cons.injEq] at ht
    obtain ⟨rfl, rfl, rfl⟩ := ht
    refine step hw (hr _ (Exs.refl _)) (by simp) ?_; rw [Oper.uponIn_value, put_act]; exact ih rfl
  | ef _ hw hr _ _ ih =>
    cases l <;> simp only [OT.ofList, reduceCtorEq, OT.cons.injEq] at ht
    obtain ⟨rfl, rfl, rfl⟩ := ht
    refine step hw hr (by simp) ?_; rw [Oper.uponIn_value, put_act]; exact ih rfl
  | es _ hw hr _ _ ih =>
    cases l <;> simp only [OT.ofList, reduceCtorEq, OT.cons.injEq] at ht
    obtain ⟨rfl, rfl, rfl⟩ := ht
    refine step hw hr (by simp) ?_; rw [Oper.uponIn_skip, put_act]; exact ih rfl
  | cl _ hw hr hc _ _ ih =>
    cases l <;> simp only [OT.ofList, reduceCtorEq, OT.cons.injEq] at ht
    obtain ⟨rfl, rfl, rfl⟩ := ht
    refine step hw hr (by simp) ?_; rw [Oper.uponIn_enter]
    refine ⟨fw_depth _ _, calls_fw (Calls.mono hc ?_)⟩
    rintro e w'' ⟨v, rfl, h⟩
    show wpListIn _ _ _ _ _ _ _ _
    rw [put_act]; exact ih _ _ h rfl
  | rd _ hw _ hr hc _ ih =>
    cases l <;> simp only [OT.ofList, reduceCtorEq, OT.cons.injEq] at ht
    obtain ⟨rfl, rfl, rfl⟩ := ht
    refine step hw hr (by simp) ?_; rw [Oper.uponIn_round]
    refine ⟨fw_depth _ _, round_fw (hc.mono ?_) _⟩
    rintro e w'' ⟨v, rfl, h⟩
    show wpListIn _ _ _ _ _ _ _ _
    rw [put_act]; exact ih _ _ h rfl
  | gn hw _ ih =>
    cases l <;> simp only [OT.ofList, reduceCtorEq, OT.cons.injEq] at ht
    obtain ⟨rfl, rfl, rfl⟩ := ht
    unfold wpListIn; rw [if_neg (by unfold wanted at hw; rw [hw]; simp), put_act]; exact ⟨fun f _ => trivial, ih rfl⟩

/-- A region in its own order. -/
theorem W.rg {ρ : Env} {w : World} {id : Nat} {l : List Oper} (h : RL P n true N0 l.toArray N (OT.ofList l) ρ w) : W P n ro (.region id l.toArray false) N X R ρ w := wpIn_region_lit h.seq

/-! ### Regions that draw their order -/
/-- Number j waits for number i. -/
def reach (md : Region.Mode) (ops : Array Oper) : Nat → Nat → Nat → Bool
  | 0, _, _ => false
  | f + 1, j, i => match ops[j]? with
    | some o => o.after.any fun e => Region.binds md e && (e.on == i || reach md ops f e.on i)
    | none => false
def Closed (md : Region.Mode) (ops : Array Oper) (listed : Array Bool) : Prop :=
  ∀ j o, ops[j]? = some o → listed.getD j false = true → ∀ e ∈ o.after, Region.binds md e = true → listed.getD e.on false = true
theorem getD_tf {listed : Array Bool} {i : Nat} (h : listed.getD i false = true) : listed.getD i true = true := by
  rcases Nat.lt_or_ge i listed.size with h' | h'
  · simp [h'] at h ⊢; exact h
  · simp [Array.getElem?_eq_none h']
theorem reach_no {md : Region.Mode} {listed : Array Bool} (hc : Closed md ops listed) {i : Nat} (hi : listed.getD i true = false) : ∀ (f j : Nat),
    (∀ o, ops[j]? = some o → ∀ e ∈ o.after, Region.binds md e = true → listed.getD e.on false = true) → reach md ops f j i = false
  | 0, _, _ => rfl
  | f + 1, j, h => by
    unfold reach
    cases ho : ops[j]? with
    | none => rfl
    | some o =>
      simp only
      rw [Array.any_eq_false']
      intro e he
      simp only [Bool.and_eq_true, Bool.or_eq_true, beq_iff_eq, not_and, not_or]
      intro hb
      have hl := h o ho e he hb
      refine ⟨fun e1 => ?_, ?_⟩
      · rw [e1] at hl; have := getD_tf hl; rw [hi] at this; cases this
      · rw [reach_no hc hi f e.on (fun o' ho' => hc e.on o' ho' hl)]; simp
theorem Closed.set {md : Region.Mode} {listed : Array Bool} (hc : Closed md ops listed) {i : Nat} (hi : i ∈ Region.ready md ops listed) : Closed md ops (listed.setIfInBounds i true) := by
  intro j o ho hj e he hb
  obtain ⟨_, oi, hoi, hall⟩ := mem_ready.1 hi
  by_cases hij : i = j
  · subst hij
    rw [hoi] at ho; cases ho
    exact getD_set_true (hall e he hb)
  · rw [getD_set_ne false hij] at hj
    exact getD_set_true (hc j o ho hj e he hb)

/-- One of the great ones (E) that have come up waits for l. -/
def blk (md : Region.Mode) (ops : Array Oper) (E : Nat → Bool) (listed : Array Bool) (l : Nat) : Bool := (List.range ops.size).any fun j => (listed.getD j false && E j) && reach md ops ops.size j l
theorem blk_mono {md : Region.Mode} {E : Nat → Bool} {listed : Array Bool} {i l : Nat} (h : blk md ops E (listed.setIfInBounds i true) l = false) : blk md ops E listed l = false := by
  unfold blk at *
  rw [List.any_eq_false] at *
  intro j hj
  have := h j hj
  simp only [Bool.and_eq_true, not_and, and_imp] at this ⊢
  exact fun h1 => this (getD_set_true h1)
theorem blk_small {md : Region.Mode} {E : Nat → Bool} {listed : Array Bool} {i l : Nat} (hi : E i = false) (h : blk md ops E listed l = false) : blk md ops E (listed.setIfInBounds i true) l = false := by
  unfold blk at *
  rw [List.any_eq_false] at *
  intro j hj
  have := h j hj
  simp only [Bool.and_eq_true, not_and, and_imp] at this ⊢
  intro h1 h2
  by_cases hij : i = j
  · subst hij; rw [hi] at h2; cases h2
  · rw [getD_set_ne false hij] at h1; exact this h1 h2
/-- Whatever order is picked from here on; the facts F hold behind each operation, but for those of operations that must have come up. -/
def G (P : Program) (md : Region.Mode) (ops : Array Oper) (E : Nat → Bool) (Q : Exit → Act → World → Prop) (F : List (Nat × (World → Prop))) : Nat → Array Bool → Act → World → Prop
  | 0, listed, a, w => Region.ready md ops listed = [] ∧ Q .normal a w
  | fuel + 1, listed, a, w =>
    (Region.ready md ops listed = [] → Q .normal a w) ∧
    ∀ i ∈ Region.ready md ops listed, wpOp P ops Q i (fun a' w' => (∀ p ∈ F, blk md ops E (listed.setIfInBounds i true) p.1 = false → p.2 w') ∧ G P md ops E Q F fuel (listed.setIfInBounds i true) a' w') a w
theorem G.any {md : Region.Mode} {E : Nat → Bool} {Q : Exit → Act → World → Prop} {F : List (Nat × (World → Prop))} : ∀ (fuel : Nat) (listed : Array Bool) (a : Act) (w : World), G P md ops E Q F fuel listed a w → wpAny P md ops Q fuel listed a w
  | 0, _, _, _, h => h
  | fuel + 1, _, _, _, h => ⟨h.1, fun i hi => wpOp_mono (fun a' w' h' => G.any fuel _ a' w' h'.2) (h.2 i hi)⟩
theorem G.first {md : Region.Mode} {E : Nat → Bool} {Q : Exit → Act → World → Prop} {F : List (Nat × (World → Prop))} {f : World → Prop} {i : Nat} {oi : Oper} {v : Value} (hi : ops[i]? = some oi) (hE : E i = false)
    (hsel : ∀ (j : Nat) (o : Oper) cs b, ops[j]? = some o → o.op ≠ .select cs b) (hQ : ∀ c a w, Q (.panic c) (a.put oi.dst v) w → Q (.panic c) a w) :
    ∀ (fuel : Nat) (listed : Array Bool) (a : Act) (w : World), Closed md ops listed →
      (∀ j oj, ops[j]? = some oj → j ≠ i → listed.getD j true = false → (∀ e ∈ oj.after, Region.binds md e = true → e.on ≠ i) → oi.apart ops oj = true) →
      i ∈ Region.ready md ops listed → YieldsIf P ops f oi v a → f w → (∀ p ∈ F, blk md ops E (listed.setIfInBounds i true) p.1 = false → p.2 w) →
      G P md ops E Q ((i, f) :: F) fuel (listed.setIfInBounds i true) (a.put oi.dst v) w → G P md ops E Q F (fuel + 1) listed a w := by
  intro fuel
  have drop : ∀ {g : Nat} {listed : Array Bool} {a : Act} {w : World}, G P md ops E Q ((i, f) :: F) g listed a w → G P md ops E Q F g listed a w := by
    intro g
    induction g with
    | zero => intro _ _ _ h; exact h
    | succ g ih => intro _ _ _ h; exact ⟨h.1, fun j hj => wpOp_mono (fun a' w' h' => ⟨fun p hp => h'.1 p (List.mem_cons_of_mem _ hp), ih h'.2⟩) (h.2 j hj)⟩
  induction fuel with
  | zero =>
    intro listed a w _ _ hr hy hS hF H
    refine ⟨fun h => (by rw [h] at hr; cases hr), fun j hj => ?_⟩
    by_cases hji : j = i
    · subst hji; exact hy.wpOp hi hS ⟨hF, drop H⟩
    · have := ready_mono hj hji
      rw [H.1] at this
      cases this
  | succ fuel ih =>
    intro listed a w hcl hfree hr hy hS hF H
    refine ⟨fun h => (by rw [h] at hr; cases hr), fun j hj => ?_⟩
    by_cases hji : j = i
    · subst hji; exact hy.wpOp hi hS ⟨hF, drop H⟩
    · have h1 := H.2 j (ready_mono hj hji)
      obtain ⟨hjun, oj, hoj, hall⟩ := mem_ready.1 hj
      have hiun := (mem_ready.1 hr).1
      have hni : blk md ops E ((listed.setIfInBounds i true).setIfInBounds j true) i = false := by
        unfold blk
        rw [List.any_eq_false]
        intro m _
        simp only [Bool.and_eq_true, not_and, and_imp]
        intro hm _
        have : reach md ops ops.size m i = false := by
          refine reach_no hcl hiun _ _ ?_
          by_cases hmj : j = m
          · subst hmj; intro o ho; rw [hoj] at ho; cases ho; exact hall
          · rw [getD_set_ne false hmj] at hm
            by_cases hmi : i = m
            · subst hmi; intro o ho; rw [hi] at ho; cases ho
              obtain ⟨_, oi', hoi', hall'⟩ := mem_ready.1 hr
              rw [hi] at hoi'; cases hoi'; exact hall'
            · rw [getD_set_ne false hmi] at hm
              exact fun o ho => hcl m o ho hm
        rw [this]; simp
      have hnot : ∀ e ∈ oj.after, Region.binds md e = true → e.on ≠ i := fun e he hb heq => by
        have h1 := hall e he hb
        rw [heq] at h1
        have := getD_tf h1; rw [hiun] at this; cases this
      have h2 := wpOp_putIf hoj (hfree j oj hoj hji hjun hnot) (fun cs b => hsel i oi cs b hi) (fun cs b => hsel j oj cs b hoj) hQ hy h1
      have hfree' : ∀ k ok, ops[k]? = some ok → k ≠ i → (listed.setIfInBounds j true).getD k true = false →
          (∀ e ∈ ok.after, Region.binds md e = true → e.on ≠ i) → oi.apart ops ok = true := fun k ok hk hki hun hno => by
        refine hfree k ok hk hki ?_ hno
        by_cases hjk : j = k
        · subst hjk; exact hjun
        · rw [getD_set_ne true hjk] at hun; exact hun
      refine wpOp_mono (fun a' w' h3 => ⟨fun p hp hb => ?_, ?_⟩) h2
      · exact h3.2.1 p (List.mem_cons_of_mem _ hp) (by rw [Array.setIfInBounds_comm _ _ (Ne.symm hji)]; exact blk_small hE hb)
      refine ih (listed.setIfInBounds j true) a' w' (hcl.set hj) hfree' (ready_mono hr (Ne.symm hji)) h3.1 (h3.2.1 (i, f) (List.mem_cons_self ..) hni) ?_ ?_
      · intro p hp hb
        exact h3.2.1 p (List.mem_cons_of_mem _ hp) (by rw [Array.setIfInBounds_comm _ _ (Ne.symm hji)]; exact hb)
      · rw [Array.setIfInBounds_comm _ _ hji]
        exact h3.2.2

def isE (P : Program) (ops : Array Oper) (j : Nat) : Bool := match ops[j]? with | some o => cls P o.op == 2 | none => false
/-- The order of a region, by the operations' numbers. -/
inductive ST where
  | nil
  | cons (i : Nat) (f : Bool) (t : ST)
  | fork (a b : ST)
def ST.ot (ops : Array Oper) : ST → OT
  | .nil => .nil
  | .cons i f t => .cons (ops.getD i default) f (t.ot ops)
  | .fork a b => .fork (a.ot ops) (b.ot ops)
def ST.line : List Nat → ST
  | [] => .nil
  | i :: l => .cons i false (ST.line l)
/-- The order s serves: what only reckons or reads is taken when it may come up; what does more, whichever may (those of the list rd, if there is one). -/
def chk (P : Program) (ops : Array Oper) : ST → Option (List Nat) → Array Bool → List Nat → Bool
  | .nil, rd, listed, _ => rd.isNone && (Region.ready .any ops listed).isEmpty
  | .cons i f t, rd, listed, loads =>
    match ops[i]? with
    | none => false
    | some o =>
      if cls P o.op = 2 then
        (rd.getD (Region.ready .any ops listed) == [i]) && (f || loads.all fun l => blk .any ops (isE P ops) (listed.setIfInBounds i true) l) && chk P ops t none (listed.setIfInBounds i true) loads
      else
        rd.isNone && (Region.ready .any ops listed).contains i && Region.free .any ops listed i && chk P ops t none (listed.setIfInBounds i true) (if cls P o.op = 1 then i :: loads else loads)
  | .fork a b, rd, listed, loads =>
    match rd.getD (Region.ready .any ops listed) with
    | i :: j :: r => chk P ops a (some [i]) listed loads && chk P ops b (some (j :: r)) listed loads
    | _ => false
/-- A list, worked out before it is handed on. -/
def force {β : Type} : List Bool → (List Bool → β) → β
  | [], k => k []
  | true :: l, k => force l fun r => k (true :: r)
  | false :: l, k => force l fun r => k (false :: r)
theorem force_eq {β : Type} : ∀ (l : List Bool) (k : List Bool → β), force l k = k l
  | [], _ => rfl
  | true :: l, _ => force_eq l _
  | false :: l, _ => force_eq l _
/-- Each number waits for smaller ones alone. -/
def ordered (md : Region.Mode) (ops : Array Oper) : Bool := (List.range ops.size).all fun j => match ops[j]? with
  | some o => o.after.toList.all fun e => !Region.binds md e || decide (e.on < j)
  | none => true
/-- Who waits for number i, of the first ones. -/
def rowR (md : Region.Mode) (ops : Array Oper) (i : Nat) : Nat → List Bool
  | 0 => []
  | n + 1 => force (rowR md ops i n) fun r => r ++ [match ops[n]? with | some o => o.after.toList.any fun e => Region.binds md e && (e.on == i || r.getD e.on false) | none => false]
theorem any_congr' {α : Type} {p q : α → Bool} : ∀ {l : List α}, (∀ a ∈ l, p a = q a) → l.any p = l.any q
  | [], _ => rfl
  | a :: l, h => by
    rw [List.any_cons, List.any_cons, h a List.mem_cons_self, any_congr' fun b hb => h b (List.mem_cons_of_mem _ hb)]
theorem ordered_on {md : Region.Mode} (ho : ordered md ops = true) {j : Nat} {o : Oper} (hj : ops[j]? = some o) : ∀ e ∈ o.after, Region.binds md e = true → e.on < j := by
  intro e he hb
  have := List.all_eq_true.1 ho j (List.mem_range.2 (Array.getElem?_eq_some_iff.1 hj).1)
  rw [hj] at this
  have := List.all_eq_true.1 (show (o.after.toList.all fun e => !Region.binds md e || decide (e.on < j)) = true from this) e (by simpa using he)
  rw [hb] at this
  simpa using this
theorem reach_fuel {md : Region.Mode} (ho : ordered md ops = true) {i : Nat} : ∀ (j f f' : Nat), j < f → j < f' → reach md ops f j i = reach md ops f' j i := by
  intro j
  induction j using Nat.strongRecOn with
  | ind j ih =>
    rintro (_ | f) (_ | f') h h'
    · omega
    · omega
    · omega
    · unfold reach
      cases hj : ops[j]? with
      | none => rfl
      | some o =>
        show (o.after.any _) = (o.after.any _)
        rw [← Array.any_toList, ← Array.any_toList]
        refine any_congr' fun e he => ?_
        cases hb : Region.binds md e with
        | false => rfl
        | true =>
          have := ordered_on ho hj e (by simpa using he) hb
          rw [ih e.on this f f' (by omega) (by omega)]
theorem rowR_get {md : Region.Mode} (ho : ordered md ops = true) {i : Nat} : ∀ n, n ≤ ops.size → (rowR md ops i n).length = n ∧ ∀ j, j < n → (rowR md ops i n).getD j false = reach md ops ops.size j i
  | 0, _ => ⟨rfl, fun j h => by omega⟩
  | n + 1, hn => by
    obtain ⟨h1, h2⟩ := rowR_get ho (i := i) n (by omega)
    have e : rowR md ops i (n + 1) = rowR md ops i n ++ [match ops[n]? with | some o => o.after.toList.any fun e => Region.binds md e && (e.on == i || (rowR md ops i n).getD e.on false) | none => false] := by
      rw [rowR, force_eq]
    rw [e]
    refine ⟨by simp [h1], fun j hj => ?_⟩
    by_cases hjn : j < n
    · rw [List.getD_eq_getElem?_getD, List.getElem?_append_left (by omega), ← List.getD_eq_getElem?_getD]; exact h2 j hjn
    · obtain rfl : j = n := by omega
      rw [List.getD_eq_getElem?_getD, List.getElem?_append_right (by omega), h1, Nat.sub_self]
      show (match ops[j]? with | some o => o.after.toList.any fun e => Region.binds md e && (e.on == i || (rowR md ops i j).getD e.on false) | none => false) = _
      rw [reach_fuel ho j ops.size (ops.size + 1) (by omega) (by omega)]
      unfold reach
      cases hj : ops[j]? with
      | none => rfl
      | some o =>
        show (o.after.toList.any _) = (o.after.any _)
        rw [← Array.any_toList]
        refine any_congr' fun e he => ?_
        cases hb : Region.binds md e with
        | false => rfl
        | true => rw [h2 e.on (ordered_on ho hj e (by simpa using he) hb)]
def blkF (md : Region.Mode) (ops : Array Oper) (E : Nat → Bool) (listed : Array Bool) (l : Nat) : Bool := force (rowR md ops l ops.size) fun r => (List.range ops.size).any fun j => (listed.getD j false && E j) && r.getD j false
theorem blkF_eq {md : Region.Mode} (ho : ordered md ops = true) (E : Nat → Bool) (listed : Array Bool) (l : Nat) : blkF md ops E listed l = blk md ops E listed l := by
  unfold blkF blk
  rw [force_eq]
  exact any_congr' fun j hj => by rw [(rowR_get ho ops.size (Nat.le_refl _)).2 j (List.mem_range.1 hj)]
/-- The same, where each step's list is worked out. -/
def chkF (P : Program) (ops : Array Oper) : ST → Option (List Nat) → Array Bool → List Nat → Bool
  | .nil, rd, listed, _ => rd.isNone && (Region.ready .any ops listed).isEmpty
  | .cons i f t, rd, listed, loads =>
    match ops[i]? with
    | none => false
    | some o =>
      if cls P o.op = 2 then
        force (listed.setIfInBounds i true).toList fun r => (rd.getD (Region.ready .any ops listed) == [i]) && (f || loads.all fun l => blkF .any ops (isE P ops) ⟨r⟩ l) && chkF P ops t none ⟨r⟩ loads
      else
        force (listed.setIfInBounds i true).toList fun r => rd.isNone && (Region.ready .any ops listed).contains i && Region.free .any ops listed i && chkF P ops t none ⟨r⟩ (if cls P o.op = 1 then i :: loads else loads)
  | .fork a b, rd, listed, loads =>
    match rd.getD (Region.ready .any ops listed) with
    | i :: j :: r => chkF P ops a (some [i]) listed loads && chkF P ops b (some (j :: r)) listed loads
    | _ => false
theorem all_congr' {α : Type} {p q : α → Bool} : ∀ {l : List α}, (∀ a ∈ l, p a = q a) → l.all p = l.all q
  | [], _ => rfl
  | a :: l, h => by
    rw [List.all_cons, List.all_cons, h a List.mem_cons_self, all_congr' fun b hb => h b (List.mem_cons_of_mem _ hb)]
theorem chkF_eq (P : Program) (ho : ordered .any ops = true) : ∀ (s : ST) (rd : Option (List Nat)) (listed : Array Bool) (loads : List Nat), chkF P ops s rd listed loads = chk P ops s rd listed loads
  | .nil, _, _, _ => rfl
  | .cons i f t, rd, listed, loads => by
    unfold chkF chk
    simp only [force_eq, chkF_eq P ho t, blkF_eq ho]
  | .fork a b, rd, listed, loads => by
    unfold chkF chk
    simp only [chkF_eq P ho a, chkF_eq P ho b]
def ST.size : ST → Nat
  | .nil => 0
  | .cons _ _ t => t.size + 1
  | .fork a _ => a.size
def ST.even : ST → Bool
  | .nil => true
  | .cons _ _ t => t.even
  | .fork a b => a.even && b.even && (a.size == b.size)

/-- What is known of the facts on the way. -/
def Facts (P : Program) (S : Nat → Prop) (ops : Array Oper) (F : List (Nat × (World → Prop))) (listed : Array Bool) (loads : List Nat) (w : World) : Prop :=
  ∀ p ∈ F, (∀ u, p.2 u) ∨ (p.1 ∈ loads ∧ ∃ u, p.2 = Exs S u ∧ (blk .any ops (isE P ops) listed p.1 = false → Exs S u w))
theorem Facts.hold {F : List (Nat × (World → Prop))} {listed : Array Bool} {loads : List Nat} {w : World} (h : Facts P S ops F listed loads w) {i : Nat} :
    ∀ p ∈ F, blk .any ops (isE P ops) (listed.setIfInBounds i true) p.1 = false → p.2 w := by
  intro p hp hb
  rcases h p hp with h | ⟨_, u, hu, h⟩
  · exact h w
  · rw [hu]; exact h (blk_mono hb)
theorem Facts.next {F : List (Nat × (World → Prop))} {listed : Array Bool} {loads loads' : List Nat} {w w' : World} (h : Facts P S ops F listed loads w) {i : Nat} (hl : ∀ l ∈ loads, l ∈ loads')
    (hw : (∀ l ∈ loads, blk .any ops (isE P ops) (listed.setIfInBounds i true) l = true) ∨ Exs S w w') : Facts P S ops F (listed.setIfInBounds i true) loads' w' := by
  intro p hp
  rcases h p hp with h | ⟨hm, u, hu, h⟩
  · exact .inl h
  · refine .inr ⟨hl _ hm, u, hu, fun hb => ?_⟩
    rcases hw with hw | hw
    · rw [hw _ hm] at hb; cases hb
    · exact (h (blk_mono hb)).trans hw

/-- What is to be shown of a tree that stands at some point: of the whole state, or of those that may come next. -/
def Aim (P : Program) (ops : Array Oper) (Q : Exit → Act → World → Prop) (F : List (Nat × (World → Prop))) (listed : Array Bool) (a : Act) (w : World) (m : Nat) : Option (List Nat) → Prop
  | none => G P .any ops (isE P ops) Q F m listed a w
  | some rd => ∃ m', m = m' + 1 ∧ ∀ i ∈ rd, wpOp P ops Q i (fun a' w' => (∀ p ∈ F, blk .any ops (isE P ops) (listed.setIfInBounds i true) p.1 = false → p.2 w') ∧ G P .any ops (isE P ops) Q F m' (listed.setIfInBounds i true) a' w') a w

theorem G.of {N : Post} (hs : Region.noSelect ops = true) {l : OT} {ρ : Env} {w : World} (hsq : sq = false) (h : RL P n sq S ops N l ρ w) :
    ∀ (s : ST) (rd : Option (List Nat)) (listed : Array Bool) (loads : List Nat) (F : List (Nat × (World → Prop))), l = s.ot ops → s.even = true → chk P ops s rd listed loads = true → (∀ r, rd = some r → ∀ i ∈ r, i ∈ Region.ready .any ops listed) →
      Closed .any ops listed → Facts P S ops F listed loads w → Aim P ops (QQ n N X R) F listed (act n ρ) w s.size rd := by
  have hsel := Region.noSelect_spec hs
  have hQ : ∀ (d : Option Tmp) (v : Value) c a w, QQ n N X R (.panic c) (Act.put a d v) w → QQ n N X R (.panic c) a w := fun _ _ _ _ _ h => h.elim
  have split : ∀ {o : Oper} {f : Bool} {rest : OT} {s : ST} {rd : Option (List Nat)} {listed : Array Bool} {loads : List Nat}, OT.cons o f rest = s.ot ops → chk P ops s rd listed loads = true →
      ∃ i s', s = .cons i f s' ∧ ops[i]? = some o ∧ rest = s'.ot ops ∧
        ((cls P o.op = 2 ∧ rd.getD (Region.ready .any ops listed) = [i] ∧ (f = true ∨ ∀ l ∈ loads, blk .any ops (isE P ops) (listed.setIfInBounds i true) l = true) ∧ chk P ops s' none (listed.setIfInBounds i true) loads = true) ∨
         (cls P o.op ≠ 2 ∧ rd = none ∧ i ∈ Region.ready .any ops listed ∧ Region.free .any ops listed i = true ∧ chk P ops s' none (listed.setIfInBounds i true) (if cls P o.op = 1 then i :: loads else loads) = true)) := by
    intro o f rest s rd listed loads he hc
    cases s with
    | nil => cases he
    | fork a b => cases he
    | cons i f' s' =>
      simp only [ST.ot, OT.cons.injEq] at he
      obtain ⟨ho, rfl, hr⟩ := he
      unfold chk at hc
      cases hi : ops[i]? with
      | none => rw [hi] at hc; cases hc
      | some o' =>
        have : o = o' := by rw [ho, Array.getD_eq_getD_getElem?, hi]; rfl
        subst this
        rw [hi] at hc
        refine ⟨i, s', rfl, hi, hr, ?_⟩
        simp only at hc
        split at hc
        · rename_i h2
          simp only [Bool.and_eq_true, Bool.or_eq_true, List.all_eq_true, beq_iff_eq] at hc
          exact .inl ⟨h2, hc.1.1, hc.1.2, hc.2⟩
        · rename_i h2
          simp only [Bool.and_eq_true, List.contains_eq_mem, decide_eq_true_eq, Option.isNone_iff_eq_none] at hc
          exact .inr ⟨h2, hc.1.1.1, hc.1.1.2, hc.1.2, hc.2⟩
  have yield_ : ∀ {i : Nat} {o : Oper} {ρ : Env} {w : World} {v : Value} {f : World → Prop} {m : Nat} {listed : Array Bool} {F : List (Nat × (World → Prop))}, ops[i]? = some o → cls P o.op ≠ 2 →
      Closed .any ops listed → i ∈ Region.ready .any ops listed → Region.free .any ops listed i = true → YieldsIf P ops f o v (act n ρ) → f w →
      (∀ p ∈ F, blk .any ops (isE P ops) (listed.setIfInBounds i true) p.1 = false → p.2 w) →
      G P .any ops (isE P ops) (QQ n N X R) ((i, f) :: F) m (listed.setIfInBounds i true) (act n (put ρ o.dst v)) w →
      G P .any ops (isE P ops) (QQ n N X R) F (m + 1) listed (act n ρ) w := by
    intro i o ρ w v f m listed F hi h2 hcl hr hf hy hfw hF hG
    have hE : isE P ops i = false := by unfold isE; rw [hi]; simpa using h2
    refine G.first hi hE hsel (hQ _ _) _ _ _ _ hcl (Region.free_spec hi hf) hr hy hfw hF ?_
    rw [put_act]; exact hG
  have eff : ∀ {i : Nat} {ρ : Env} {w : World} {m : Nat} {rd : Option (List Nat)} {listed : Array Bool} {F : List (Nat × (World → Prop))}, rd.getD (Region.ready .any ops listed) = [i] →
      wpOp P ops (QQ n N X R) i (fun a' w' => (∀ p ∈ F, blk .any ops (isE P ops) (listed.setIfInBounds i true) p.1 = false → p.2 w') ∧ G P .any ops (isE P ops) (QQ n N X R) F m (listed.setIfInBounds i true) a' w') (act n ρ) w →
      Aim P ops (QQ n N X R) F listed (act n ρ) w (m + 1) rd := by
    intro i ρ w m rd listed F hr h
    cases rd with
    | none =>
      simp only [Option.getD_none] at hr
      refine ⟨fun h0 => (by rw [hr] at h0; cases h0), fun j hj => ?_⟩
      rw [hr] at hj
      simp only [List.mem_singleton] at hj
      subst hj; exact h
    | some r =>
      simp only [Option.getD_some] at hr
      subst hr
      refine ⟨m, rfl, fun j hj => ?_⟩
      simp only [List.mem_singleton] at hj
      subst hj; exact h
  have rdy : ∀ {i : Nat} {rd : Option (List Nat)} {listed : Array Bool}, rd.getD (Region.ready .any ops listed) = [i] → (∀ r, rd = some r → ∀ i ∈ r, i ∈ Region.ready .any ops listed) → i ∈ Region.ready .any ops listed := by
    intro i rd listed h1 h2
    cases rd with
    | none => simp only [Option.getD_none] at h1; rw [h1]; simp
    | some r => simp only [Option.getD_some] at h1; exact h2 r rfl i (by rw [h1]; simp)
  have wop : ∀ {i : Nat} {o : Oper} {ρ : Env} {w : World} {K : Act → World → Prop}, ops[i]? = some o → wanted n ops ρ o = true → o.wp P (act n ρ) w K (QQ n N X R) → wpOp P ops (QQ n N X R) i K (act n ρ) w := by
    intro i o ρ w K hi hw h
    unfold wpOp; rw [hi]; simp only; unfold wanted at hw; rw [if_pos hw]; exact .inl h
  have facts' : ∀ {F : List (Nat × (World → Prop))} {listed : Array Bool} {loads : List Nat} {w w' : World} {i : Nat} {f : Bool}, Facts P S ops F listed loads w →
      (f = true ∨ ∀ l ∈ loads, blk .any ops (isE P ops) (listed.setIfInBounds i true) l = true) → (f = true → Exs S w w') → Facts P S ops F (listed.setIfInBounds i true) loads w' := by
    intro F listed loads w w' i f hF h1 h2
    exact hF.next (fun _ h => h) (h1.elim (fun h => .inr (h2 h)) .inl)
  have now : ∀ {F : List (Nat × (World → Prop))} {listed : Array Bool} {loads : List Nat} {w : World}, Facts P S ops F listed loads w → ∀ p ∈ F, blk .any ops (isE P ops) listed p.1 = false → p.2 w := by
    intro F listed loads w h p hp hb
    rcases h p hp with h | ⟨_, u, hu, h⟩
    · exact h w
    · rw [hu]; exact h hb
  have no : ∀ {listed : Array Bool}, ∀ r, (none : Option (List Nat)) = some r → ∀ i ∈ r, i ∈ Region.ready .any ops listed := fun r h => by cases h
  induction h with
  | dn h =>
    intro s rd listed loads F he hev hc hrd hcl hF
    cases s with
    | cons i f s => cases he
    | fork a b => cases he
    | nil =>
      unfold chk at hc
      simp only [Bool.and_eq_true, Option.isNone_iff_eq_none] at hc
      obtain ⟨rfl, hc⟩ := hc
      exact ⟨by simpa using hc, _, rfl, h⟩
  | @fk a b ρ w _ _ iha ihb =>
    intro s rd listed loads F he hev hc hrd hcl hF
    cases s with
    | nil => cases he
    | cons i f s => cases he
    | fork sa sb =>
      simp only [ST.ot, OT.fork.injEq] at he
      obtain ⟨rfl, rfl⟩ := he
      simp only [ST.even, Bool.and_eq_true, beq_iff_eq] at hev
      unfold chk at hc
      split at hc
      case h_2 => cases hc
      case h_1 r i j r' hr =>
        simp only [Bool.and_eq_true] at hc
        have hin : ∀ x ∈ i :: j :: r', x ∈ Region.ready .any ops listed := by
          intro x hx
          cases rd with
          | none => simp only [Option.getD_none] at hr; rw [hr]; exact hx
          | some rr => simp only [Option.getD_some] at hr; exact hrd rr rfl x (by rw [hr]; exact hx)
        obtain ⟨m, hm, h1⟩ := iha sa (some [i]) listed loads F rfl hev.1.1 hc.1 (fun r h x hx => by cases h; exact hin x (by simp at hx; simp [hx])) hcl hF
        obtain ⟨m2, hm2, h2⟩ := ihb sb (some (j :: r')) listed loads F rfl hev.1.2 hc.2 (fun r h x hx => by cases h; exact hin x (List.mem_cons_of_mem _ hx)) hcl hF
        have hmm : m2 = m := by have := hev.2; omega
        subst hmm
        have all : ∀ x ∈ i :: j :: r', wpOp P ops (QQ n N X R) x (fun a' w' => (∀ p ∈ F, blk .any ops (isE P ops) (listed.setIfInBounds x true) p.1 = false → p.2 w') ∧ G P .any ops (isE P ops) (QQ n N X R) F m2 (listed.setIfInBounds x true) a' w') (act n ρ) w := by
          intro x hx
          rcases List.mem_cons.1 hx with rfl | hx
          · exact h1 _ (by simp)
          · exact h2 _ hx
        show Aim P ops _ F listed _ w sa.size rd
        rw [hm]
        cases rd with
        | none =>
          simp only [Option.getD_none] at hr
          exact ⟨fun h0 => (by rw [hr] at h0; cases h0), fun x hx => all x (by rw [← hr]; exact hx)⟩
        | some rr =>
          simp only [Option.getD_some] at hr
          exact ⟨m2, rfl, fun x hx => all x (by rw [← hr]; exact hx)⟩
  | yp h0 hw hr _ ih =>
    intro s rd listed loads F he hev hc hrd hcl hF
    obtain ⟨i, s', rfl, hi, hr', hh⟩ := split he hc
    rcases hh with ⟨h2, _⟩ | ⟨h2, rfl, hrdy, hfr, hc'⟩
    · rw [h0] at h2; cases h2
    · refine yield_ (f := fun _ => True) hi h2 hcl hrdy hfr (.inl ⟨hw, fun u _ => by rw [eval_act']; exact hr u⟩) trivial (fun p hp hb => now hF p hp (blk_mono hb)) ?_
      refine ih s' none _ _ _ hr' hev hc' no (hcl.set hrdy) ?_
      intro p hp
      rcases List.mem_cons.1 hp with rfl | hp
      · exact .inl fun _ => trivial
      · exact hF.next (fun l hl => by split <;> simp [hl]) (.inr (Exs.refl _)) p hp
  | @yl o f rest ρ w v h1 hw hr _ ih =>
    intro s rd listed loads F he hev hc hrd hcl hF
    obtain ⟨i, s', rfl, hi, hr', hh⟩ := split he hc
    rcases hh with ⟨h2, _⟩ | ⟨h2, rfl, hrdy, hfr, hc'⟩
    · rw [h1] at h2; cases h2
    · refine yield_ (f := Exs S w) hi h2 hcl hrdy hfr (.inl ⟨hw, fun u hu => by rw [eval_act']; exact hr u hu⟩) (Exs.refl _) (fun p hp hb => now hF p hp (blk_mono hb)) ?_
      refine ih s' none _ _ _ hr' hev hc' no (hcl.set hrdy) ?_
      intro p hp
      rcases List.mem_cons.1 hp with rfl | hp
      · exact .inr ⟨by simp [h1], w, rfl, fun _ => Exs.refl _⟩
      · exact hF.next (fun l hl => by split <;> simp [hl]) (.inr (Exs.refl _)) p hp
  | @ef o f rest ρ w w' v h2 hw hr hfl _ ih =>
    intro s rd listed loads F he hev hc hrd hcl hF
    obtain ⟨i, s', rfl, hi, hr', hh⟩ := split he hc
    rcases hh with ⟨_, hrdy, hb, hc'⟩ | ⟨h2', _⟩
    · have hF' := facts' hF hb hfl
      refine eff hrdy (wop hi hw ?_)
      unfold Oper.wp; rw [eval_act', hr, Oper.upon_value, put_act]
      exact ⟨now hF', ih s' none _ _ _ hr' hev hc' no (hcl.set (rdy hrdy hrd)) hF'⟩
    · exact absurd h2 h2'
  | @es o f rest ρ w w' h2 hw hr hfl _ ih =>
    intro s rd listed loads F he hev hc hrd hcl hF
    obtain ⟨i, s', rfl, hi, hr', hh⟩ := split he hc
    rcases hh with ⟨_, hrdy, hb, hc'⟩ | ⟨h2', _⟩
    · have hF' := facts' hF hb hfl
      refine eff hrdy (wop hi hw ?_)
      unfold Oper.wp; rw [eval_act', hr, Oper.upon_skip, put_act]
      exact ⟨now hF', ih s' none _ _ _ hr' hev hc' no (hcl.set (rdy hrdy hrd)) hF'⟩
    · exact absurd h2 h2'
  | @cl o f rest ρ w g args M h2 hw hr hcall hfl _ ih =>
    intro s rd listed loads F he hev hc hrd hcl hF
    obtain ⟨i, s', rfl, hi, hr', hh⟩ := split he hc
    rcases hh with ⟨_, hrdy, hb, hc'⟩ | ⟨h2', _⟩
    · refine eff hrdy (wop hi hw ?_)
      unfold Oper.wp; rw [eval_act', hr, Oper.upon_enter]
      refine Calls.mono hcall ?_
      rintro e w'' ⟨v, rfl, hM⟩
      have hF' := facts' hF hb (hfl v w'' hM)
      show _ ∧ _
      rw [put_act]
      exact ⟨now hF', ih v w'' hM s' none _ _ _ hr' hev hc' no (hcl.set (rdy hrdy hrd)) hF'⟩
    · exact absurd h2 h2'
  | rd hsq' _ _ _ _ _ _ => rw [hsq] at hsq'; cases hsq'
  | @gn o f rest ρ w hw _ ih =>
    intro s rd listed loads F he hev hc hrd hcl hF
    obtain ⟨i, s', rfl, hi, hr', hh⟩ := split he hc
    rcases hh with ⟨_, hrdy, hb, hc'⟩ | ⟨h2, rfl, hrdy, hfr, hc'⟩
    · have hF' := facts' hF hb (fun _ => Exs.refl w)
      refine eff hrdy ?_
      unfold wpOp; rw [hi]; simp only; unfold wanted at hw; rw [if_neg (by rw [hw]; simp), put_act]
      exact ⟨now hF', ih s' none _ _ _ hr' hev hc' no (hcl.set (rdy hrdy hrd)) hF'⟩
    · refine yield_ (f := fun _ => True) hi h2 hcl hrdy hfr (.inr ⟨hw, rfl⟩) trivial (fun p hp hb => now hF p hp (blk_mono hb)) ?_
      refine ih s' none _ _ _ hr' hev hc' no (hcl.set hrdy) ?_
      intro p hp
      rcases List.mem_cons.1 hp with rfl | hp
      · exact .inl fun _ => trivial
      · exact hF.next (fun l hl => by split <;> simp [hl]) (.inr (Exs.refl _)) p hp

/-- A region that draws its order, by one order that serves (s), or by a tree of such. -/
theorem W.ds {N : Post} {ρ : Env} {w : World} {id : Nat} (S : Nat → Prop) (s : ST) (hm : P.follows .mixedOrders = true) (hd : (ops.all fun o => match o.op with | .defer _ => false | _ => true) = true) (hc : (Region.noSelect ops && s.even && (s.size == ops.size) && ordered .any ops && chkF P ops s none (Array.replicate ops.size false) []) = true)
    (h : ∀ w1, w1 = w.drew → RL P n false S ops N (s.ot ops) ρ w1) : W P n ro (.region id ops true) N X R ρ w := by
  simp only [Bool.and_eq_true, beq_iff_eq] at hc
  have hc : ((Region.noSelect ops = true ∧ s.even = true) ∧ s.size = ops.size) ∧ chk P ops s none (Array.replicate ops.size false) [] = true := ⟨hc.1.1, by rw [← chkF_eq P hc.1.2]; exact hc.2⟩
  have hG : wpAny P .any ops (QQ n N X R) ops.size (Array.replicate ops.size false) (act n ρ) w.drew := by
    rw [← hc.1.2]
    refine G.any _ _ _ _ (G.of hc.1.1.1 rfl (h _ rfl) s none (Array.replicate s.size false) [] [] rfl hc.1.1.2 (by rw [hc.1.2]; exact hc.2) (fun r h => by cases h) ?_ ?_)
    · intro j o _ hj
      rw [getD_replicate_false'] at hj; cases hj
    · intro p hp; cases hp
  refine wpIn_region_draw fun t => ?_
  simp only [Region.schedule, hm, Bool.true_or, if_true]
  exact ops_in hd _ _ _ (wpAny_sound ops.size t _ _ _ hG)
  where
  getD_replicate_false' {m j : Nat} : (Array.replicate m false).getD j false = false := by
    rcases Nat.lt_or_ge j m with h | h
    · simp [h]
    · simp [h]
  ops_in {ops : Array Oper} (hd : (ops.all fun o => match o.op with | .defer _ => false | _ => true) = true) : ∀ (l : List Nat) (a : Act) (w : World), wpOps P ops (QQ n N X R) l a w → wpOpsIn (fw ro) 0 P ops (QQ n N X R) l a w
    | [], a, w, h => h
    | i :: rest, a, w, h => by
      unfold wpOps at h
      unfold wpOpsIn
      cases ho : ops[i]? with
      | none => rw [ho] at h; exact ops_in hd rest a w h
      | some o =>
        rw [ho] at h
        simp only at h ⊢
        by_cases hw : Region.wanted o (yielded ops a.tmps) = true
        · rw [if_pos hw] at h ⊢
          rcases h with h | ⟨_, a', w', h⟩
          · refine ⟨fun f _ => trivial, ?_⟩
            have hnd : ∀ c, o.op ≠ .defer c := by
              intro c hc
              have := Array.all_eq_true_iff_forall_mem.1 hd o (Array.mem_of_getElem? ho)
              rw [hc] at this; cases this
            rw [Oper.semAt_eq _ _ _ hnd]
            unfold Oper.wp at h
            generalize (execOp a.eval o).run P w = r at h
            cases r with
            | ok x w' =>
              cases x <;> simp only [Oper.upon, Oper.uponIn] at h ⊢
              case value v => exact ops_in hd rest _ _ h
              case skip => exact ops_in hd rest _ _ h
              case defer d => exact ops_in hd rest _ _ h
              case enter f args =>
                refine ⟨fw_depth _ _, calls_fw (Calls.mono h fun e w'' he => ?_)⟩
                cases e with
                | returned u => exact ops_in hd rest _ _ he
                | panicked c => exact he
                | outgrown => exact he
              case row row args => exact ⟨fw_depth _ _, fun c cs _ => by
                obtain ⟨v, w'', hq, hs⟩ := h c cs
                refine ⟨v, w'', ops_in hd rest _ _ hq, ?_⟩
                exact stepsIn_wide.2 hs⟩
            | halt x w' => cases x <;> simp only [Oper.upon, Oper.uponIn] at h ⊢; exact h
          · exact h.elim
        · rw [if_neg hw] at h ⊢
          exact ⟨fun f _ => trivial, ops_in hd rest _ _ h⟩
end

/-! ### How a function's results are read off -/
section
variable {P : Program} {n : Nat}
theorem getD_act (ρ : Env) (t : Nat) : (act n ρ).tmps.getD t undef = ev n ρ (.tmp t) := eval_act n ρ (.tmp t)

/-- On the way out: the marks are taken in, then K. -/
def Lv (P : Program) (K : World → Prop) : List Deferred → World → Prop
  | [], w => K w
  | d :: ds, w => ∃ r w', d.target = .collected r ∧ (Instr.takeDeferred r).run P w = .ok [] w' ∧ Lv P K ds w'
theorem Lv.mono {P : Program} {K K' : World → Prop} (h : ∀ w, K w → K' w) : ∀ {ds : List Deferred} {w : World}, Lv P K ds w → Lv P K' ds w
  | [], w, hk => h w hk
  | _ :: _, _, ⟨r, w', hd, ht, hk⟩ => ⟨r, w', hd, ht, Lv.mono h hk⟩
/-- What the function hands back. -/
def Res (P : Program) (fn : Func) (n : Nat) (k : Value → World → Prop) : Post := fun ρ w => Lv P (fun w => ∃ v, (results fn (act n ρ).tmps).run P w = .ok v w ∧ k v w) ρ.ds w

def ini (l : List Value) : Env := ⟨nth l, []⟩
theorem Cl.enter {f : FuncId} {fn : Func} {c : Code} {args : List Value} {w : World} {k : Value → World → Prop}
    (hf : P.funcs[f]? = some fn) (hb : fn.body = some c) (hn : fn.ntmps = n) (ha : args.length ≤ n)
    (h : W P n none c (Res P fn n k) (fun _ _ _ => False) (Res P fn n k) (ini args) w) : Cl P f args w k := by
  refine (callsIn_wide (n := 0)).1 (callsIn_of_wp_marks (F := Fence.wide) hf hb trivial ?_)
  have e : ({ tmps := args.toArray ++ Array.replicate (fn.ntmps - args.toArray.size) undef, defers := [] } : Act) = act n (ini args) := by
    subst hn
    simp only [act, ini]
    congr 1
    apply Array.ext
    · simp; omega
    · intro i h1 h2
      simp only [Array.getElem_ofFn]
      have key : ∀ (l : List Value) (i m : Nat) (h : i < (l ++ List.replicate m undef).length), (l ++ List.replicate m undef)[i] = nth l i := by
        intro l
        induction l with
        | nil => intro i m h; simp [nth]
        | cons v l ih =>
          intro i m h
          cases i with
          | zero => rfl
          | succ i => simpa [nth] using ih i m (by simpa using h)
      have := key args i (fn.ntmps - args.length) (by simp; simp at h1; omega)
      rw [← this]
      simp only [List.size_toArray, ← List.toArray_replicate, List.append_toArray, List.getElem_toArray]
  rw [e]
  refine wpIn_mono (F := Fence.wide) h ?_
  have leave0 : ∀ (T : Array Value) (ds : List Deferred) (w : World), Lv P (fun w => ∃ v, (results fn T).run P w = .ok v w ∧ k v w) ds w → LeavesInM Fence.wide 0 P fn T (fun e w' => ∃ v, e = .returned v ∧ k v w') ds .returning w := by
    intro T ds
    induction ds with
    | nil =>
      rintro w ⟨v, hv, hk⟩
      exact ⟨v, hv, v, rfl, hk⟩
    | cons d ds ih =>
      rintro w ⟨r, w', hd, ht, h⟩
      exact ⟨by simp, .inl ⟨r, w', hd, ht, ih _ h⟩⟩
  have leave : ∀ (ρ : Env) (w : World), Res P fn n k ρ w → LeavesInM Fence.wide 0 P fn (act n ρ).tmps (fun e w' => ∃ v, e = .returned v ∧ k v w') (act n ρ).defers .returning w := fun ρ w h => leave0 _ _ _ h
  intro e a w h
  cases e with
  | normal => obtain ⟨ρ, rfl, h⟩ := h; exact leave ρ w h
  | ret => obtain ⟨ρ, rfl, h⟩ := h; exact leave ρ w h
  | exit j => obtain ⟨ρ, rfl, h⟩ := h; exact h.elim
  | goto j => obtain ⟨ρ, rfl, h⟩ := h; exact h.elim
  | panic c => exact h.elim
  | outgrown => exact h.elim
theorem Res.r0 {fn : Func} {k : Value → World → Prop} {ρ : Env} {w : World} (h : fn.results = #[]) (hk : Lv P (k (.tuple #[])) ρ.ds w) : Res P fn n k ρ w := Lv.mono (fun w hk => ⟨_, results_none h _ P w, hk⟩) hk
theorem Res.r1 {fn : Func} {k : Value → World → Prop} {ρ : Env} {w : World} {t : Tmp} (h : fn.results = #[.tmp t]) (v : Value) (hv : ev n ρ (.tmp t) = v) (hk : Lv P (k v) ρ.ds w) : Res P fn n k ρ w :=
  Lv.mono (fun w hk => ⟨_, results_tmp h _ P w, by rw [getD_act, hv]; exact hk⟩) hk
theorem Res.rs {fn : Func} {k : Value → World → Prop} {ρ : Env} {w : World} {ts : List Tmp} {vs : List Value} (h : fn.results = (ts.map ResultVar.tmp).toArray) (h1 : ts.length ≠ 1) (hv : ts.map (fun t => ev n ρ (.tmp t)) = vs)
    (hk : Lv P (k (.tuple vs.toArray)) ρ.ds w) : Res P fn n k ρ w := by
  refine Lv.mono (fun w hk => ⟨.tuple vs.toArray, ?_, hk⟩) hk
  have key : ∀ (ts : List Tmp) (f : ResultVar → Sem Value), (∀ t, (f (.tmp t)).run P w = .ok (ev n ρ (.tmp t)) w) → ((ts.map ResultVar.tmp).mapM f).run P w = .ok (ts.map fun t => ev n ρ (.tmp t)) w := by
    intro ts f hf
    induction ts with
    | nil => rfl
    | cons t ts ih => simp only [List.map_cons, List.mapM_cons, Sem.run_bind, Sem.run_pure, Result.andThen_ok, hf, ih]
  unfold results
  simp only [h, List.mapM_toArray, Sem.run_bind, Sem.run_map]
  rw [key ts _ (fun t => by simp only [Sem.run_pure, getD_act])]
  subst hv
  simp only [Result.andThen_ok, List.size_toArray, List.length_map, h1, dite_false, Sem.run_pure]
end
end Go.V
