/- An engine for walking a function's operations: the frame as a function from slots to values. -/
import Derived.WalkKit
import Derived.OrdersHeld
import Derived.RangeFuncLeaves
import Derived.TacticsIn
import Derived.WalkLawsBesides
import Derived.RangeFuncRecord
namespace Go.V
open Go.RowKit
structure Env where
  f : Nat → Value
  ds : List Deferred
def upd (ρ : Env) (d : Nat) (v : Value) : Env := ⟨fun t => bif Nat.beq t d then v else ρ.f t, ρ.ds⟩
def put (ρ : Env) (d : Option Nat) (v : Value) : Env := match d with | some d => upd ρ d v | none => ρ
def act (n : Nat) (ρ : Env) : Act := { tmps := Array.ofFn (fun i : Fin n => ρ.f i), defers := ρ.ds }
def ev (n : Nat) (ρ : Env) : Operand → Value
  | .tmp t => bif Nat.blt t n then ρ.f t else undef
  | .const v => v
  | .global g => .pointer (some ⟨g, 0, none⟩)
  | .func f => .func (.func f) #[] #[]
def nth : List Value → Nat → Value
  | [], _ => undef
  | v :: _, 0 => v
  | _ :: l, n + 1 => nth l n
theorem eval_act (n : Nat) (ρ : Env) (x : Operand) : (act n ρ).eval x = ev n ρ x := by
  cases x with
  | tmp t =>
    simp only [Act.eval, act, ev]
    by_cases h : t < n
    · have hb : Nat.blt t n = true := by simpa using h
      simp [hb, h]
    · have hb : Nat.blt t n = false := by cases hh : Nat.blt t n
                                          · rfl
                                          · exact absurd (by simpa using hh) h
      simp [hb, h]
  | const v => rfl
  | global g => rfl
  | func f => rfl
theorem eval_act' (n : Nat) (ρ : Env) : (act n ρ).eval = ev n ρ := funext (eval_act n ρ)
theorem put_act (n : Nat) (ρ : Env) (d : Option Nat) (v : Value) : (act n ρ).put d v = act n (put ρ d v) := by
  cases d with
  | none => rfl
  | some d =>
    simp only [Act.put, act, put, upd]
    congr 1
    apply Array.ext
    · simp
    · intro i h1 h2
      simp only [Array.size_ofFn] at h2
      rw [Array.getElem_setIfInBounds (by simpa using h2)]
      simp only [Array.getElem_ofFn]
      by_cases h : d = i
      · subst h; simp
      · have : Nat.beq i d = false := by
          cases hb : Nat.beq i d
          · rfl
          · exact absurd (Nat.eq_of_beq_eq_true hb).symm h
        simp [h, this]
theorem yielded_act (n : Nat) (ρ : Env) (ops : Array Oper) (j : Nat) :
    yielded ops (act n ρ).tmps j = match (ops[j]?).bind (·.dst) with
      | some d => (bif Nat.blt d n then (match ρ.f d with | .bool b => some b | _ => none) else none)
      | none => none := by
  unfold yielded
  cases (ops[j]?).bind (·.dst) with
  | none => rfl
  | some d =>
    simp only [Option.bind_some, act]
    by_cases h : d < n
    · have hb : Nat.blt d n = true := by simpa using h
      simp [hb, h]
      split
      · rename_i heq; simp only [Option.some.injEq] at heq; simp [heq]
      · rename_i heq
        split
        · rename_i heq2; exact absurd (by rw [heq2]) (heq _)
        · rfl
    · have hb : Nat.blt d n = false := by cases hh : Nat.blt d n
                                          · rfl
                                          · exact absurd (by simpa using hh) h
      simp [hb, h]
abbrev Post := Env → World → Prop
def QQ (n : Nat) (N : Post) (X : Nat → Post) (R : Post) : Exit → Act → World → Prop
  | .normal, a, w => ∃ ρ, a = act n ρ ∧ N ρ w
  | .exit j, a, w => ∃ ρ, a = act n ρ ∧ X (2 * j) ρ w
  | .goto l, a, w => ∃ ρ, a = act n ρ ∧ X (2 * l + 1) ρ w
  | .ret, a, w => ∃ ρ, a = act n ρ ∧ R ρ w
  | _, _, _ => False
def fw (ro : Option Nat) : Fence := { Fence.wide with round := ro }
theorem fw_room (ro : Option Nat) (k : Nat) : (fw ro).room k := fun _ h => by simp [fw, Fence.wide] at h
theorem fw_depth (ro : Option Nat) (k : Nat) : (fw ro).depth.isSome = true → 1 ≤ k := fun h => by simp [fw, Fence.wide] at h
def W (P : Program) (n : Nat) (ro : Option Nat) (c : Code) (N : Post) (X : Nat → Post) (R : Post) (ρ : Env) (w : World) : Prop :=
  c.wpIn (fw ro) 0 P (QQ n N X R) (act n ρ) w
def XB (id : Nat) (N : Post) (X : Nat → Post) : Nat → Post := fun j ρ w => bif Nat.beq j (2 * id) then N ρ w else X j ρ w
section
variable {P : Program}
def Cl (P : Program) (f : FuncId) (args : List Value) (w : World) (k : Value → World → Prop) : Prop :=
  Calls P f args.toArray w fun e w' => ∃ v, e = .returned v ∧ k v w'
theorem Cl.mono {f : FuncId} {args : List Value} {w : World} {k k' : Value → World → Prop} (h : Cl P f args w k) (hk : ∀ v w', k v w' → k' v w') : Cl P f args w k' :=
  Calls.mono h fun _ _ ⟨v, e, h⟩ => ⟨v, e, hk _ _ h⟩
end
section
variable {P : Program} {n : Nat} {ro : Option Nat} {N N' : Post} {X X' : Nat → Post} {R R' : Post} {ρ : Env} {w : World}
theorem QQ_mono (hN : ∀ ρ w, N ρ w → N' ρ w) (hX : ∀ j ρ w, X j ρ w → X' j ρ w) (hR : ∀ ρ w, R ρ w → R' ρ w) (e : Exit) (a : Act) (w : World)
    (h : QQ n N X R e a w) : QQ n N' X' R' e a w := by
  cases e <;> simp only [QQ] at h ⊢
  · obtain ⟨ρ, e, h⟩ := h; exact ⟨ρ, e, hN _ _ h⟩
  · obtain ⟨ρ, e, h⟩ := h; exact ⟨ρ, e, hX _ _ _ h⟩
  · obtain ⟨ρ, e, h⟩ := h; exact ⟨ρ, e, hX _ _ _ h⟩
  · obtain ⟨ρ, e, h⟩ := h; exact ⟨ρ, e, hR _ _ h⟩
theorem W.mono {c : Code} (hN : ∀ ρ w, N ρ w → N' ρ w) (hX : ∀ j ρ w, X j ρ w → X' j ρ w) (hR : ∀ ρ w, R ρ w → R' ρ w) (h : W P n ro c N X R ρ w) : W P n ro c N' X' R' ρ w :=
  wpIn_mono h (QQ_mono hN hX hR)
theorem W.sk (h : N ρ w) : W P n ro .skip N X R ρ w := wpIn_skip ⟨ρ, rfl, h⟩
theorem W.rt (h : R ρ w) : W P n ro .ret N X R ρ w := wpIn_ret ⟨ρ, rfl, h⟩
theorem W.ex {j : Nat} (h : X (2 * j) ρ w) : W P n ro (.exit j) N X R ρ w := wpIn_exit ⟨ρ, rfl, h⟩
theorem W.gt {j : Nat} (h : X (2 * j + 1) ρ w) : W P n ro (.goto j) N X R ρ w := wpIn_goto ⟨ρ, rfl, h⟩
theorem W.lb {l : Nat} (h : N ρ w) : W P n ro (.label l) N X R ρ w := wpIn_label ⟨ρ, rfl, h⟩
theorem W.sq {x y : Code} (h : W P n ro x (W P n ro y N X R) X R ρ w) : W P n ro (.seq x y) N X R ρ w := by
  refine wpIn_seq (wpIn_mono h ?_)
  intro e a w h
  cases e <;> simp only [QQ, Exit.then] at h ⊢
  · obtain ⟨ρ, rfl, h⟩ := h; exact h
  all_goals exact h
theorem beq_ne {a b : Nat} (h : a ≠ b) : Nat.beq a b = false := by
  cases hb : Nat.beq a b
  · rfl
  · exact absurd (Nat.eq_of_beq_eq_true hb) h
theorem W.bl {id : Nat} {c : Code} (h : W P n ro c N (XB id N X) R ρ w) : W P n ro (.block id c) N X R ρ w := by
  refine wpIn_block (wpIn_mono h ?_)
  intro e a w h
  cases e with
  | exit j =>
    simp only [QQ, Exit.inBlock, XB] at h ⊢
    obtain ⟨ρ, rfl, h⟩ := h
    by_cases hj : j = id
    · subst hj
      simp only [if_true] at h ⊢
      have : Nat.beq (2 * j) (2 * j) = true := by simp
      rw [this] at h
      exact ⟨ρ, rfl, h⟩
    · rw [if_neg hj]
      rw [beq_ne (by omega)] at h
      exact ⟨ρ, rfl, h⟩
  | goto l =>
    simp only [QQ, Exit.inBlock, XB] at h ⊢
    obtain ⟨ρ, rfl, h⟩ := h
    rw [beq_ne (by omega)] at h
    exact ⟨ρ, rfl, h⟩
  | normal => exact h
  | ret => exact h
  | panic c => exact h
  | outgrown => exact h
theorem W.cd {c : Operand} {x y : Code} {b : Bool} (hc : ev n ρ c = .bool b) (h : (b = true → W P n ro x N X R ρ w) ∧ (b = false → W P n ro y N X R ρ w)) :
    W P n ro (.cond c x y) N X R ρ w :=
  wpIn_cond_split (t := b) (by rw [eval_act]; exact hc) h.1 h.2
theorem W.jn {c : Code} (hN : ∀ ρ w, N' ρ w → N ρ w) (h : W P n ro c N' (X) R ρ w) : W P n ro c N X R ρ w := W.mono hN (fun _ _ _ h => h) (fun _ _ h => h) h
theorem wp_loop_ix {Q : Exit → Act → World → Prop} {a : Act} {c : Code} (I : Nat → Act → World → Prop) (h₀ : ∃ m, I m a w)
    (round : ∀ m a w, I m a w → c.wpIn (fw ro) 0 P (Exit.then (fun a' w' => ∃ m', m' < m ∧ I m' a' w') Q) a w) : (Code.loop c).wpIn (fw ro) 0 P Q a w := by
  intro b k cs hro hb hr
  have key : ∀ m a w, I m a w →
      ∃ e a' w', Q e a' w' ∧ ArrivesIn (Machine.fenced P (fw ro)) P (lone (b.atR a (.code c :: .inLoop c :: k)) cs w) b k cs e a' w' := by
    intro n
    induction n using Nat.strongRecOn with
    | _ n ih =>
      intro a w hI
      obtain ⟨e, a₁, w₁, hq, harr⟩ := round n a w hI b (.inLoop c :: k) cs hro hb hr
      cases e with
      | normal =>
        obtain ⟨m', hlt, hI₁⟩ := hq
        obtain ⟨e₂, a₂, w₂, hq₂, harr₂⟩ := ih m' hlt a₁ w₁ hI₁
        exact ⟨e₂, a₂, w₂, hq₂, .of_steps (StepsIn.trans harr (.one (fenced_calm hb hr rfl) stepR_inLoop)) harr₂⟩
      | exit id => exact ⟨_, a₁, w₁, hq, .pass (x := .inLoop c) rfl (fun _ _ => .inl (by simp)) harr⟩
      | goto l => exact ⟨_, a₁, w₁, hq, .pass (x := .inLoop c) rfl (fun _ _ => .inl (by simp)) harr⟩
      | ret => exact ⟨_, a₁, w₁, hq, .pass (x := .inLoop c) rfl (fun _ _ => .inl (by simp)) harr⟩
      | panic ch => exact ⟨_, a₁, w₁, hq, .pass (x := .inLoop c) rfl (fun _ _ => .inl (by simp)) harr⟩
      | outgrown => exact ⟨_, a₁, w₁, hq, .pass (x := .inLoop c) rfl (fun _ _ => .inl (by simp)) harr⟩
  obtain ⟨m, h₀⟩ := h₀
  obtain ⟨e, a', w', hq, harr⟩ := key _ a w h₀
  exact ⟨e, a', w', hq, .of_steps (.one (fenced_calm hb hr rfl) stepR_loop) harr⟩
theorem W.lp {c : Code} (J : Nat → Post) (h0 : ∃ m, J m ρ w) (h : ∀ m ρ w, J m ρ w → W P n ro c (fun ρ w => ∃ m', m' < m ∧ J m' ρ w) X R ρ w) : W P n ro (.loop c) N X R ρ w := by
  refine wp_loop_ix (fun m a w => ∃ ρ, a = act n ρ ∧ J m ρ w) ?_ ?_
  · obtain ⟨m, h0⟩ := h0; exact ⟨m, ρ, rfl, h0⟩
  · rintro m a w ⟨ρ, rfl, hJ⟩
    refine wpIn_mono (h m ρ w hJ) ?_
    intro e a w h
    cases e <;> simp only [QQ, Exit.then] at h ⊢
    · obtain ⟨ρ, rfl, m', hm, h⟩ := h; exact ⟨m', hm, ρ, rfl, h⟩
    all_goals exact h
end
def Ext (w u : World) : Prop := w.heap.size ≤ u.heap.size ∧ ∀ b, b < w.heap.size → u.heap[b]? = w.heap[b]?
theorem Ext.cell {w u : World} (h : Ext w u) {a : Addr} {v : Value} (hc : w.cell? a = some v) : u.cell? a = some v := by
  have hb := World.block_lt_of_cell? w a hc
  unfold World.cell? at hc ⊢
  rw [h.2 _ hb]; exact hc
theorem Ext.alloc (w : World) (o : Obj) : Ext w (w.alloc o) := ⟨by simp, fun b hb => Below.heap_alloc w o b hb⟩
def Exs (S : Nat → Prop) (w u : World) : Prop := w.heap.size ≤ u.heap.size ∧ ∀ b, b < w.heap.size → ¬ S b → u.heap[b]? = w.heap[b]?
def N0 : Nat → Prop := fun _ => False
theorem Exs.refl {S : Nat → Prop} (w : World) : Exs S w w := ⟨Nat.le_refl _, fun _ _ _ => rfl⟩
theorem Exs.trans {S : Nat → Prop} {a b c : World} (h : Exs S a b) (k : Exs S b c) : Exs S a c := ⟨Nat.le_trans h.1 k.1, fun i hi hs => (k.2 i (Nat.lt_of_lt_of_le hi h.1) hs).trans (h.2 i hi hs)⟩
theorem Ext.s {S : Nat → Prop} {w u : World} (h : Ext w u) : Exs S w u := ⟨h.1, fun b hb _ => h.2 b hb⟩
theorem Exs.e {w u : World} (h : Exs N0 w u) : Ext w u := ⟨h.1, fun b hb => h.2 b hb (fun f => f)⟩
theorem Exs.cell {S : Nat → Prop} {w u : World} (h : Exs S w u) {a : Addr} {v : Value} (hs : ¬ S a.block) (hc : w.cell? a = some v) : u.cell? a = some v := by
  have hb := World.block_lt_of_cell? w a hc
  unfold World.cell? at hc ⊢
  rw [h.2 _ hb hs]; exact hc
def cls (P : Program) : Op → Nat
  | .move _ | .assign _ | .pick .. | .build .. | .nilCheck _ | .binOp .. | .unOp .. | .makeFunc .. | .makeInterface .. | .slice .. | .fieldAddr .. | .field .. | .indexAddr .. | .index .. | .extract .. => 0
  | .load .. | .lookup .. => 1
  | .convert s d _ => match P.underlying s, P.underlying d with
    | some .string, some (.slice _) => 2
    | some (.slice _), _ => 1
    | _, _ => 0
  | .call ⟨.builtin .len, _, ts⟩ => match ts[0]? with
    | some t => (match P.underlying t with | some (.map _ _) => 1 | _ => 0)
    | none => 2
  | .call ⟨.builtin .min, _, _⟩ | .call ⟨.builtin .max, _, _⟩ => 0
  | _ => 2
def wanted (n : Nat) (ops : Array Oper) (ρ : Env) (o : Oper) : Bool := Region.wanted o (yielded ops (act n ρ).tmps)
inductive OT where
  | nil
  | cons (o : Oper) (f : Bool) (t : OT)
  | fork (a b : OT)
def OT.ofList : List Oper → OT
  | [] => .nil
  | o :: l => .cons o false (OT.ofList l)
def Yd (P : Program) (l : Nat) (args : List Value) (w : World) (k : Value → World → Prop) : Prop :=
  ∃ r, w.heap[l]? = some (.loop r) ∧ args.length = r.params.size ∧
    RoundIn (fw none) 0 P l r.fn ((r.params.zip args.toArray).foldl (fun tmps (t, a) => tmps.setIfInBounds t a) r.tmps) r.assign r.body w fun e w' => ∃ v, e = .returned v ∧ k v w'
inductive RL (P : Program) (n : Nat) (sq : Bool) (S : Nat → Prop) (ops : Array Oper) (N : Post) : OT → Env → World → Prop
  | dn {ρ : Env} {w : World} : N ρ w → RL P n sq S ops N .nil ρ w
  | yp {o : Oper} {f : Bool} {rest : OT} {ρ : Env} {w : World} {v : Value} : cls P o.op = 0 → wanted n ops ρ o = true → (∀ u, (execOp (ev n ρ) o).run P u = .ok (.value v) u) →
      RL P n sq S ops N rest (put ρ o.dst v) w → RL P n sq S ops N (.cons o f rest) ρ w
  | yl {o : Oper} {f : Bool} {rest : OT} {ρ : Env} {w : World} {v : Value} : cls P o.op = 1 → wanted n ops ρ o = true → (∀ u, Exs S w u → (execOp (ev n ρ) o).run P u = .ok (.value v) u) →
      RL P n sq S ops N rest (put ρ o.dst v) w → RL P n sq S ops N (.cons o f rest) ρ w
  | ef {o : Oper} {f : Bool} {rest : OT} {ρ : Env} {w w' : World} {v : Value} : cls P o.op = 2 → wanted n ops ρ o = true → (execOp (ev n ρ) o).run P w = .ok (.value v) w' → (f = true → Exs S w w') →
      RL P n sq S ops N rest (put ρ o.dst v) w' → RL P n sq S ops N (.cons o f rest) ρ w
  | es {o : Oper} {f : Bool} {rest : OT} {ρ : Env} {w w' : World} : cls P o.op = 2 → wanted n ops ρ o = true → (execOp (ev n ρ) o).run P w = .ok .skip w' → (f = true → Exs S w w') →
      RL P n sq S ops N rest (put ρ o.dst undef) w' → RL P n sq S ops N (.cons o f rest) ρ w
  | cl {o : Oper} {f : Bool} {rest : OT} {ρ : Env} {w : World} {g : FuncId} {args : List Value} {M : Value → World → Prop} : cls P o.op = 2 → wanted n ops ρ o = true → (execOp (ev n ρ) o).run P w = .ok (.enter g args.toArray) w →
      Cl P g args w M → (∀ v w', M v w' → (f = true → Exs S w w')) → (∀ v w', M v w' → RL P n sq S ops N rest (put ρ o.dst v) w') → RL P n sq S ops N (.cons o f rest) ρ w
  | rd {o : Oper} {f : Bool} {rest : OT} {ρ : Env} {w : World} {l : Nat} {fn : FuncId} {tmps : Array Value} {as_ body : Code} {M : Value → World → Prop} : sq = true → wanted n ops ρ o = true → (∀ c, o.op ≠ .defer c) → (execOp (ev n ρ) o).run P w = .ok (.round l fn tmps as_ body) w →
      RoundIn (fw none) 0 P l fn tmps as_ body w (fun e w' => ∃ v, e = .returned v ∧ M v w') → (∀ v w', M v w' → RL P n sq S ops N rest (put ρ o.dst v) w') → RL P n sq S ops N (.cons o f rest) ρ w
  | gn {o : Oper} {f : Bool} {rest : OT} {ρ : Env} {w : World} : wanted n ops ρ o = false → RL P n sq S ops N rest (put ρ o.dst undef) w → RL P n sq S ops N (.cons o f rest) ρ w
  | fk {a b : OT} {ρ : Env} {w : World} : RL P n sq S ops N a ρ w → RL P n sq S ops N b ρ w → RL P n sq S ops N (.fork a b) ρ w
section
variable {P : Program} {n : Nat} {sq : Bool} {S : Nat → Prop} {ro : Option Nat} {N N' : Post} {X X' : Nat → Post} {R R' : Post} {ops : Array Oper}
theorem no_defer {ρ : Operand → Value} {o : Oper} {w w' : World} {x : Next} (h : (execOp ρ o).run P w = .ok x w') (hx : ∀ d, x ≠ .defer d) : ∀ c, o.op ≠ .defer c := by
  intro c hc
  unfold execOp at h
  simp only [hc, Sem.run_bind, Sem.run_pure] at h
  cases hr : (resolve ρ c o.type).run P w with
  | ok d w1 => rw [hr] at h; simp only [Result.andThen_ok, Result.ok.injEq] at h; exact hx d h.1.symm
  | halt a w1 => rw [hr] at h; simp [Result.andThen] at h
theorem calls_fw {ro : Option Nat} {m : Nat} {f : FuncId} {args : Array Value} {w : World} {R : Ending → World → Prop} (h : Calls P f args w R) : CallsIn (fw ro) m P f args w R := by
  have h1 : CallsIn Fence.wide m P f args w R := callsIn_wide.2 h
  exact ⟨trivial, fun cs hr => h1.2 cs (room_wide _)⟩
theorem round_fw {ro : Option Nat} {l : Nat} {fn : FuncId} {tmps : Array Value} {as_ body : Code} {w : World} {R : Ending → World → Prop} (h : RoundIn (fw none) 0 P l fn tmps as_ body w R) (m : Nat) : RoundIn (fw ro) m P l fn tmps as_ body w R :=
  ⟨trivial, fun c cs _ => h.2 c cs (fw_room _ _)⟩
theorem RL.seq {l : List Oper} {ρ : Env} {w : World} (h : RL P n sq S ops N (OT.ofList l) ρ w) : wpListIn (fw ro) 0 P ops (QQ n N X R) l (act n ρ) w := by
  have step : ∀ {o : Oper} {rest : List Oper} {ρ : Env} {w : World} {x : Next} {w' : World}, wanted n ops ρ o = true → (execOp (ev n ρ) o).run P w = .ok x w' → (∀ d, x ≠ .defer d) → o.uponIn (fw ro) 0 P (act n ρ) (wpListIn (fw ro) 0 P ops (QQ n N X R) rest) (QQ n N X R) (.ok x w') →
      wpListIn (fw ro) 0 P ops (QQ n N X R) (o :: rest) (act n ρ) w := by
    intro o rest ρ w x w' hw hr hx h
    unfold wanted at hw; unfold wpListIn; rw [if_pos hw]
    refine ⟨fun f _ => trivial, ?_⟩
    rw [Oper.semAt_eq _ _ _ (no_defer hr hx), eval_act', hr]
    exact h
  generalize ht : OT.ofList l = t at h
  induction h generalizing l with
  | dn h => cases l <;> simp only [OT.ofList, reduceCtorEq] at ht; exact ⟨_, rfl, h⟩
  | fk _ _ => cases l <;> simp only [OT.ofList, reduceCtorEq] at ht
  | yp _ hw hr _ ih =>
    cases l <;> simp only [OT.ofList, reduceCtorEq, OT.cons.injEq] at ht
    obtain ⟨rfl, rfl, rfl⟩ := ht
    refine step hw (hr _) (by simp) ?_; rw [Oper.uponIn_value, put_act]; exact ih rfl
  | yl _ hw hr _ ih =>
    cases l <;> simp only [OT.ofList, reduceCtorEq, OT.cons.injEq] at ht
    obtain ⟨rfl, rfl, rfl⟩ := ht
    refine step hw (hr _ (Exs.refl _)) (by simp) ?_; rw [Oper.uponIn_value, put_act]; exact ih rfl
  | ef _ hw hr _ _ ih =>
    cases l <;> simp only [OT.ofList, reduceCtorEq, OT.cons.injEq] at ht
    obtain ⟨rfl, rfl, rfl⟩ := ht
    refine step hw hr (by simp) ?_; rw [Oper.uponIn_value, put_act]; exact ih rfl
  | es _ hw hr _ _ ih =>
    cases l <;> simp only [OT.ofList, reduceCtorEq, OT.cons.injEq] at ht
    obtain ⟨rfl, rfl, rfl⟩ := ht
    refine step hw hr (by simp) ?_; rw [Oper.uponIn_skip, put_act]; exact ih rfl
  | cl _ hw hr hc _ _ ih =>
    cases l <;> simp only [OT.ofList, reduceCtorEq, OT.cons.injEq] at ht
    obtain ⟨rfl, rfl, rfl⟩ := ht
    refine step hw hr (by simp) ?_; rw [Oper.uponIn_enter]
    refine ⟨fw_depth _ _, calls_fw (Calls.mono hc ?_)⟩
    rintro e w'' ⟨v, rfl, h⟩
    show wpListIn _ _ _ _ _ _ _ _
    rw [put_act]; exact ih _ _ h rfl
  | rd _ hw _ hr hc _ ih =>
    cases l <;> simp only [OT.ofList, reduceCtorEq, OT.cons.injEq] at ht
    obtain ⟨rfl, rfl, rfl⟩ := ht
    refine step hw hr (by simp) ?_; rw [Oper.uponIn_round]
    refine ⟨fw_depth _ _, round_fw (hc.mono ?_) _⟩
    rintro e w'' ⟨v, rfl, h⟩
    show wpListIn _ _ _ _ _ _ _ _
    rw [put_act]; exact ih _ _ h rfl
  | gn hw _ ih =>
    cases l <;> simp only [OT.ofList, reduceCtorEq, OT.cons.injEq] at ht
    obtain ⟨rfl, rfl, rfl⟩ := ht
    unfold wpListIn; rw [if_neg (by unfold wanted at hw; rw [hw]; simp), put_act]; exact ⟨fun f _ => trivial, ih rfl⟩
theorem W.rg {ρ : Env} {w : World} {id : Nat} {l : List Oper} (h : RL P n true N0 l.toArray N (OT.ofList l) ρ w) : W P n ro (.region id l.toArray false) N X R ρ w := wpIn_region_lit h.seq
def reach (md : Region.Mode) (ops : Array Oper) : Nat → Nat → Nat → Bool
  | 0, _, _ => false
  | f + 1, j, i => match ops[j]? with
    | some o => o.after.any fun e => Region.binds md e && (e.on == i || reach md ops f e.on i)
    | none => false
def Closed (md : Region.Mode) (ops : Array Oper) (listed : Array Bool) : Prop :=
  ∀ j o, ops[j]? = some o → listed.getD j false = true → ∀ e ∈ o.after, Region.binds md e = true → listed.getD e.on false = true
theorem getD_tf {listed : Array Bool} {i : Nat} (h : listed.getD i false = true) : listed.getD i true = true := by
  rcases Nat.lt_or_ge i listed.size with h' | h'
  · simp [h'] at h ⊢; exact h
  · simp [Array.getElem?_eq_none h']
theorem reach_no {md : Region.Mode} {listed : Array Bool} (hc : Closed md ops listed) {i : Nat} (hi : listed.getD i true = false) : ∀ (f j : Nat),
    (∀ o, ops[j]? = some o → ∀ e ∈ o.after, Region.binds md e = true → listed.getD e.on false = true) → reach md ops f j i = false
  | 0, _, _ => rfl
  | f + 1, j, h => by
    unfold reach
    cases ho : ops[j]? with
    | none => rfl
    | some o =>
      simp only
      rw [Array.any_eq_false']
      intro e he
      simp only [Bool.and_eq_true, Bool.or_eq_true, beq_iff_eq, not_and, not_or]
      intro hb
      have hl := h o ho e he hb
      refine ⟨fun e1 => ?_, ?_⟩
      · rw [e1] at hl; have := getD_tf hl; rw [hi] at this; cases this
      · rw [reach_no hc hi f e.on (fun o' ho' => hc e.on o' ho' hl)]; simp
theorem Closed.set {md : Region.Mode} {listed : Array Bool} (hc : Closed md ops listed) {i : Nat} (hi : i ∈ Region.ready md ops listed) : Closed md ops (listed.setIfInBounds i true) := by
  intro j o ho hj e he hb
  obtain ⟨_, oi, hoi, hall⟩ := mem_ready.1 hi
  by_cases hij : i = j
  · subst hij
    rw [hoi] at ho; cases ho
    exact getD_set_true (hall e he hb)
  · rw [getD_set_ne false hij] at hj
    exact getD_set_true (hc j o ho hj e he hb)
def blk (md : Region.Mode) (ops : Array Oper) (E : Nat → Bool) (listed : Array Bool) (l : Nat) : Bool := (List.range ops.size).any fun j => (listed.getD j false && E j) && reach md ops ops.size j l
theorem blk_mono {md : Region.Mode} {E : Nat → Bool} {listed : Array Bool} {i l : Nat} (h : blk md ops E (listed.setIfInBounds i true) l = false) : blk md ops E listed l = false := by
  unfold blk at *
  rw [List.any_eq_false] at *
  intro j hj
  have := h j hj
  simp only [Bool.and_eq_true, not_and, and_imp] at this ⊢
  exact fun h1 => this (getD_set_true h1)
theorem blk_small {md : Region.Mode} {E : Nat → Bool} {listed : Array Bool} {i l : Nat} (hi : E i = false) (h : blk md ops E listed l = false) : blk md ops E (listed.setIfInBounds i true) l = false := by
  unfold blk at *
  rw [List.any_eq_false] at *
  intro j hj
  have := h j hj
  simp only [Bool.and_eq_true, not_and, and_imp] at this ⊢
  intro h1 h2
  by_cases hij : i = j
  · subst hij; rw [hi] at h2; cases h2
  · rw [getD_set_ne false hij] at h1; exact this h1 h2
def G (P : Program) (md : Region.Mode) (ops : Array Oper) (E : Nat → Bool) (Q : Exit → Act → World → Prop) (F : List (Nat × (World → Prop))) : Nat → Array Bool → Act → World → Prop
  | 0, listed, a, w => Region.ready md ops listed = [] ∧ Q .normal a w
  | fuel + 1, listed, a, w =>
    (Region.ready md ops listed = [] → Q .normal a w) ∧
    ∀ i ∈ Region.ready md ops listed, wpOp P ops Q i (fun a' w' => (∀ p ∈ F, blk md ops E (listed.setIfInBounds i true) p.1 = false → p.2 w') ∧ G P md ops E Q F fuel (listed.setIfInBounds i true) a' w') a w
theorem G.any {md : Region.Mode} {E : Nat → Bool} {Q : Exit → Act → World → Prop} {F : List (Nat × (World → Prop))} : ∀ (fuel : Nat) (listed : Array Bool) (a : Act) (w : World), G P md ops E Q F fuel listed a w → wpAny P md ops Q fuel listed a w
  | 0, _, _, _, h => h
  | fuel + 1, _, _, _, h => ⟨h.1, fun i hi => wpOp_mono (fun a' w' h' => G.any fuel _ a' w' h'.2) (h.2 i hi)⟩
theorem G.first {md : Region.Mode} {E : Nat → Bool} {Q : Exit → Act → World → Prop} {F : List (Nat × (World → Prop))} {f : World → Prop} {i : Nat} {oi : Oper} {v : Value} (hi : ops[i]? = some oi) (hE : E i = false)
    (hsel : ∀ (j : Nat) (o : Oper) cs b, ops[j]? = some o → o.op ≠ .select cs b) (hQ : ∀ c a w, Q (.panic c) (a.put oi.dst v) w → Q (.panic c) a w) :
    ∀ (fuel : Nat) (listed : Array Bool) (a : Act) (w : World), Closed md ops listed →
      (∀ j oj, ops[j]? = some oj → j ≠ i → listed.getD j true = false → (∀ e ∈ oj.after, Region.binds md e = true → e.on ≠ i) → oi.apart ops oj = true) →
      i ∈ Region.ready md ops listed → YieldsIf P ops f oi v a → f w → (∀ p ∈ F, blk md ops E (listed.setIfInBounds i true) p.1 = false → p.2 w) →
      G P md ops E Q ((i, f) :: F) fuel (listed.setIfInBounds i true) (a.put oi.dst v) w → G P md ops E Q F (fuel + 1) listed a w := by
  intro fuel
  have drop : ∀ {g : Nat} {listed : Array Bool} {a : Act} {w : World}, G P md ops E Q ((i, f) :: F) g listed a w → G P md ops E Q F g listed a w := by
    intro g
    induction g with
    | zero => intro _ _ _ h; exact h
    | succ g ih => intro _ _ _ h; exact ⟨h.1, fun j hj => wpOp_mono (fun a' w' h' => ⟨fun p hp => h'.1 p (List.mem_cons_of_mem _ hp), ih h'.2⟩) (h.2 j hj)⟩
  induction fuel with
  | zero =>
    intro listed a w _ _ hr hy hS hF H
    refine ⟨fun h => (by rw [h] at hr; cases hr), fun j hj => ?_⟩
    by_cases hji : j = i
    · subst hji; exact hy.wpOp hi hS ⟨hF, drop H⟩
    · have := ready_mono hj hji
      rw [H.1] at this
      cases this
  | succ fuel ih =>
    intro listed a w hcl hfree hr hy hS hF H
    refine ⟨fun h => (by rw [h] at hr; cases hr), fun j hj => ?_⟩
    by_cases hji : j = i
    · subst hji; exact hy.wpOp hi hS ⟨hF, drop H⟩
    · have h1 := H.2 j (ready_mono hj hji)
      obtain ⟨hjun, oj, hoj, hall⟩ := mem_ready.1 hj
      have hiun := (mem_ready.1 hr).1
      have hni : blk md ops E ((listed.setIfInBounds i true).setIfInBounds j true) i = false := by
        unfold blk
        rw [List.any_eq_false]
        intro m _
        simp only [Bool.and_eq_true, not_and, and_imp]
        intro hm _
        have : reach md ops ops.size m i = false := by
          refine reach_no hcl hiun _ _ ?_
          by_cases hmj : j = m
          · subst hmj; intro o ho; rw [hoj] at ho; cases ho; exact hall
          · rw [getD_set_ne false hmj] at hm
            by_cases hmi : i = m
            · subst hmi; intro o ho; rw [hi] at ho; cases ho
              obtain ⟨_, oi', hoi', hall'⟩ := mem_ready.1 hr
              rw [hi] at hoi'; cases hoi'; exact hall'
            · rw [getD_set_ne false hmi] at hm
              exact fun o ho => hcl m o ho hm
        rw [this]; simp
      have hnot : ∀ e ∈ oj.after, Region.binds md e = true → e.on ≠ i := fun e he hb heq => by
        have h1 := hall e he hb
        rw [heq] at h1
        have := getD_tf h1; rw [hiun] at this; cases this
      have h2 := wpOp_putIf hoj (hfree j oj hoj hji hjun hnot) (fun cs b => hsel i oi cs b hi) (fun cs b => hsel j oj cs b hoj) hQ hy h1
      have hfree' : ∀ k ok, ops[k]? = some ok → k ≠ i → (listed.setIfInBounds j true).getD k true = false →
          (∀ e ∈ ok.after, Region.binds md e = true → e.on ≠ i) → oi.apart ops ok = true := fun k ok hk hki hun hno => by
        refine hfree k ok hk hki ?_ hno
        by_cases hjk : j = k
        · subst hjk; exact hjun
        · rw [getD_set_ne true hjk] at hun; exact hun
      refine wpOp_mono (fun a' w' h3 => ⟨fun p hp hb => ?_, ?_⟩) h2
      · exact h3.2.1 p (List.mem_cons_of_mem _ hp) (by rw [Array.setIfInBounds_comm _ _ (Ne.symm hji)]; exact blk_small hE hb)
      refine ih (listed.setIfInBounds j true) a' w' (hcl.set hj) hfree' (ready_mono hr (Ne.symm hji)) h3.1 (h3.2.1 (i, f) (List.mem_cons_self ..) hni) ?_ ?_
      · intro p hp hb
        exact h3.2.1 p (List.mem_cons_of_mem _ hp) (by rw [Array.setIfInBounds_comm _ _ (Ne.symm hji)]; exact hb)
      · rw [Array.setIfInBounds_comm _ _ hji]
        exact h3.2.2
def isE (P : Program) (ops : Array Oper) (j : Nat) : Bool := match ops[j]? with | some o => cls P o.op == 2 | none => false
inductive ST where
  | nil
  | cons (i : Nat) (f : Bool) (t : ST)
  | fork (a b : ST)
def ST.ot (ops : Array Oper) : ST → OT
  | .nil => .nil
  | .cons i f t => .cons (ops.getD i default) f (t.ot ops)
  | .fork a b => .fork (a.ot ops) (b.ot ops)
def ST.line : List Nat → ST
  | [] => .nil
  | i :: l => .cons i false (ST.line l)
def chk (P : Program) (ops : Array Oper) : ST → Option (List Nat) → Array Bool → List Nat → Bool
  | .nil, rd, listed, _ => rd.isNone && (Region.ready .any ops listed).isEmpty
  | .cons i f t, rd, listed, loads =>
    match ops[i]? with
    | none => false
    | some o =>
      if cls P o.op = 2 then
        (rd.getD (Region.ready .any ops listed) == [i]) && (f || loads.all fun l => blk .any ops (isE P ops) (listed.setIfInBounds i true) l) && chk P ops t none (listed.setIfInBounds i true) loads
      else
        rd.isNone && (Region.ready .any ops listed).contains i && Region.free .any ops listed i && chk P ops t none (listed.setIfInBounds i true) (if cls P o.op = 1 then i :: loads else loads)
  | .fork a b, rd, listed, loads =>
    match rd.getD (Region.ready .any ops listed) with
    | i :: j :: r => chk P ops a (some [i]) listed loads && chk P ops b (some (j :: r)) listed loads
    | _ => false
def force {β : Type} : List Bool → (List Bool → β) → β
  | [], k => k []
  | true :: l, k => force l fun r => k (true :: r)
  | false :: l, k => force l fun r => k (false :: r)
theorem force_eq {β : Type} : ∀ (l : List Bool) (k : List Bool → β), force l k = k l
  | [], _ => rfl
  | true :: l, _ => force_eq l _
  | false :: l, _ => force_eq l _
def ordered (md : Region.Mode) (ops : Array Oper) : Bool := (List.range ops.size).all fun j => match ops[j]? with
  | some o => o.after.toList.all fun e => !Region.binds md e || decide (e.on < j)
  | none => true
def rowR (md : Region.Mode) (ops : Array Oper) (i : Nat) : Nat → List Bool
  | 0 => []
  | n + 1 => force (rowR md ops i n) fun r => r ++ [match ops[n]? with | some o => o.after.toList.any fun e => Region.binds md e && (e.on == i || r.getD e.on false) | none => false]
theorem any_congr' {α : Type} {p q : α → Bool} : ∀ {l : List α}, (∀ a ∈ l, p a = q a) → l.any p = l.any q
  | [], _ => rfl
  | a :: l, h => by
    rw [List.any_cons, List.any_cons, h a List.mem_cons_self, any_congr' fun b hb => h b (List.mem_cons_of_mem _ hb)]
theorem ordered_on {md : Region.Mode} (ho : ordered md ops = true) {j : Nat} {o : Oper} (hj : ops[j]? = some o) : ∀ e ∈ o.after, Region.binds md e = true → e.on < j := by
  intro e he hb
  have := List.all_eq_true.1 ho j (List.mem_range.2 (Array.getElem?_eq_some_iff.1 hj).1)
  rw [hj] at this
  have := List.all_eq_true.1 (show (o.after.toList.all fun e => !Region.binds md e || decide (e.on < j)) = true from this) e (by simpa using he)
  rw [hb] at this
  simpa using this
theorem reach_fuel {md : Region.Mode} (ho : ordered md ops = true) {i : Nat} : ∀ (j f f' : Nat), j < f → j < f' → reach md ops f j i = reach md ops f' j i := by
  intro j
  induction j using Nat.strongRecOn with
  | ind j ih =>
    rintro (_ | f) (_ | f') h h'
    · omega
    · omega
    · omega
    · unfold reach
      cases hj : ops[j]? with
      | none => rfl
      | some o =>
        show (o.after.any _) = (o.after.any _)
        rw [← Array.any_toList, ← Array.any_toList]
        refine any_congr' fun e he => ?_
        cases hb : Region.binds md e with
        | false => rfl
        | true =>
          have := ordered_on ho hj e (by simpa using he) hb
          rw [ih e.on this f f' (by omega) (by omega)]
theorem rowR_get {md : Region.Mode} (ho : ordered md ops = true) {i : Nat} : ∀ n, n ≤ ops.size → (rowR md ops i n).length = n ∧ ∀ j, j < n → (rowR md ops i n).getD j false = reach md ops ops.size j i
  | 0, _ => ⟨rfl, fun j h => by omega⟩
  | n + 1, hn => by
    obtain ⟨h1, h2⟩ := rowR_get ho (i := i) n (by omega)
    have e : rowR md ops i (n + 1) = rowR md ops i n ++ [match ops[n]? with | some o => o.after.toList.any fun e => Region.binds md e && (e.on == i || (rowR md ops i n).getD e.on false) | none => false] := by
      rw [rowR, force_eq]
    rw [e]
    refine ⟨by simp [h1], fun j hj => ?_⟩
    by_cases hjn : j < n
    · rw [List.getD_eq_getElem?_getD, List.getElem?_append_left (by omega), ← List.getD_eq_getElem?_getD]; exact h2 j hjn
    · obtain rfl : j = n := by omega
      rw [List.getD_eq_getElem?_getD, List.getElem?_append_right (by omega), h1, Nat.sub_self]
      show (match ops[j]? with | some o => o.after.toList.any fun e => Region.binds md e && (e.on == i || (rowR md ops i j).getD e.on false) | none => false) = _
      rw [reach_fuel ho j ops.size (ops.size + 1) (by omega) (by omega)]
      unfold reach
      cases hj : ops[j]? with
      | none => rfl
      | some o =>
        show (o.after.toList.any _) = (o.after.any _)
        rw [← Array.any_toList]
        refine any_congr' fun e he => ?_
        cases hb : Region.binds md e with
        | false => rfl
        | true => rw [h2 e.on (ordered_on ho hj e (by simpa using he) hb)]
def blkF (md : Region.Mode) (ops : Array Oper) (E : Nat → Bool) (listed : Array Bool) (l : Nat) : Bool := force (rowR md ops l ops.size) fun r => (List.range ops.size).any fun j => (listed.getD j false && E j) && r.getD j false
theorem blkF_eq {md : Region.Mode} (ho : ordered md ops = true) (E : Nat → Bool) (listed : Array Bool) (l : Nat) : blkF md ops E listed l = blk md ops E listed l := by
  unfold blkF blk
  rw [force_eq]
  exact any_congr' fun j hj => by rw [(rowR_get ho ops.size (Nat.le_refl _)).2 j (List.mem_range.1 hj)]
def chkF (P : Program) (ops : Array Oper) : ST → Option (List Nat) → Array Bool → List Nat → Bool
  | .nil, rd, listed, _ => rd.isNone && (Region.ready .any ops listed).isEmpty
  | .cons i f t, rd, listed, loads =>
    match ops[i]? with
    | none => false
    | some o =>
      if cls P o.op = 2 then
        force (listed.setIfInBounds i true).toList fun r => (rd.getD (Region.ready .any ops listed) == [i]) && (f || loads.all fun l => blkF .any ops (isE P ops) ⟨r⟩ l) && chkF P ops t none ⟨r⟩ loads
      else
        force (listed.setIfInBounds i true).toList fun r => rd.isNone && (Region.ready .any ops listed).contains i && Region.free .any ops listed i && chkF P ops t none ⟨r⟩ (if cls P o.op = 1 then i :: loads else loads)
  | .fork a b, rd, listed, loads =>
    match rd.getD (Region.ready .any ops listed) with
    | i :: j :: r => chkF P ops a (some [i]) listed loads && chkF P ops b (some (j :: r)) listed loads
    | _ => false
theorem chkF_eq (P : Program) (ho : ordered .any ops = true) : ∀ (s : ST) (rd : Option (List Nat)) (listed : Array Bool) (loads : List Nat), chkF P ops s rd listed loads = chk P ops s rd listed loads
  | .nil, _, _, _ => rfl
  | .cons i f t, rd, listed, loads => by
    unfold chkF chk
    simp only [force_eq, chkF_eq P ho t, blkF_eq ho]
  | .fork a b, rd, listed, loads => by
    unfold chkF chk
    simp only [chkF_eq P ho a, chkF_eq P ho b]
def ST.size : ST → Nat
  | .nil => 0
  | .cons _ _ t => t.size + 1
  | .fork a _ => a.size
def ST.even : ST → Bool
  | .nil => true
  | .cons _ _ t => t.even
  | .fork a b => a.even && b.even && (a.size == b.size)
def Facts (P : Program) (S : Nat → Prop) (ops : Array Oper) (F : List (Nat × (World → Prop))) (listed : Array Bool) (loads : List Nat) (w : World) : Prop :=
  ∀ p ∈ F, (∀ u, p.2 u) ∨ (p.1 ∈ loads ∧ ∃ u, p.2 = Exs S u ∧ (blk .any ops (isE P ops) listed p.1 = false → Exs S u w))
theorem Facts.next {F : List (Nat × (World → Prop))} {listed : Array Bool} {loads loads' : List Nat} {w w' : World} (h : Facts P S ops F listed loads w) {i : Nat} (hl : ∀ l ∈ loads, l ∈ loads')
    (hw : (∀ l ∈ loads, blk .any ops (isE P ops) (listed.setIfInBounds i true) l = true) ∨ Exs S w w') : Facts P S ops F (listed.setIfInBounds i true) loads' w' := by
  intro p hp
  rcases h p hp with h | ⟨hm, u, hu, h⟩
  · exact .inl h
  · refine .inr ⟨hl _ hm, u, hu, fun hb => ?_⟩
    rcases hw with hw | hw
    · rw [hw _ hm] at hb; cases hb
    · exact (h (blk_mono hb)).trans hw
def Aim (P : Program) (ops : Array Oper) (Q : Exit → Act → World → Prop) (F : List (Nat × (World → Prop))) (listed : Array Bool) (a : Act) (w : World) (m : Nat) : Option (List Nat) → Prop
  | none => G P .any ops (isE P ops) Q F m listed a w
  | some rd => ∃ m', m = m' + 1 ∧ ∀ i ∈ rd, wpOp P ops Q i (fun a' w' => (∀ p ∈ F, blk .any ops (isE P ops) (listed.setIfInBounds i true) p.1 = false → p.2 w') ∧ G P .any ops (isE P ops) Q F m' (listed.setIfInBounds i true) a' w') a w
theorem G.of {N : Post} (hs : Region.noSelect ops = true) {l : OT} {ρ : Env} {w : World} (hsq : sq = false) (h : RL P n sq S ops N l ρ w) :
    ∀ (s : ST) (rd : Option (List Nat)) (listed : Array Bool) (loads : List Nat) (F : List (Nat × (World → Prop))), l = s.ot ops → s.even = true → chk P ops s rd listed loads = true → (∀ r, rd = some r → ∀ i ∈ r, i ∈ Region.ready .any ops listed) →
      Closed .any ops listed → Facts P S ops F listed loads w → Aim P ops (QQ n N X R) F listed (act n ρ) w s.size rd := by
  have hsel := Region.noSelect_spec hs
  have hQ : ∀ (d : Option Tmp) (v : Value) c a w, QQ n N X R (.panic c) (Act.put a d v) w → QQ n N X R (.panic c) a w := fun _ _ _ _ _ h => h.elim
  have split : ∀ {o : Oper} {f : Bool} {rest : OT} {s : ST} {rd : Option (List Nat)} {listed : Array Bool} {loads : List Nat}, OT.cons o f rest = s.ot ops → chk P ops s rd listed loads = true →
      ∃ i s', s = .cons i f s' ∧ ops[i]? = some o ∧ rest = s'.ot ops ∧
        ((cls P o.op = 2 ∧ rd.getD (Region.ready .any ops listed) = [i] ∧ (f = true ∨ ∀ l ∈ loads, blk .any ops (isE P ops) (listed.setIfInBounds i true) l = true) ∧ chk P ops s' none (listed.setIfInBounds i true) loads = true) ∨
         (cls P o.op ≠ 2 ∧ rd = none ∧ i ∈ Region.ready .any ops listed ∧ Region.free .any ops listed i = true ∧ chk P ops s' none (listed.setIfInBounds i true) (if cls P o.op = 1 then i :: loads else loads) = true)) := by
    intro o f rest s rd listed loads he hc
    cases s with
    | nil => cases he
    | fork a b => cases he
    | cons i f' s' =>
      simp only [ST.ot, OT.cons.injEq] at he
      obtain ⟨ho, rfl, hr⟩ := he
      unfold chk at hc
      cases hi : ops[i]? with
      | none => rw [hi] at hc; cases hc
      | some o' =>
        have : o = o' := by rw [ho, Array.getD_eq_getD_getElem?, hi]; rfl
        subst this
        rw [hi] at hc
        refine ⟨i, s', rfl, hi, hr, ?_⟩
        simp only at hc
        split at hc
        · rename_i h2
          simp only [Bool.and_eq_true, Bool.or_eq_true, List.all_eq_true, beq_iff_eq] at hc
          exact .inl ⟨h2, hc.1.1, hc.1.2, hc.2⟩
        · rename_i h2
          simp only [Bool.and_eq_true, List.contains_eq_mem, decide_eq_true_eq, Option.isNone_iff_eq_none] at hc
          exact .inr ⟨h2, hc.1.1.1, hc.1.1.2, hc.1.2, hc.2⟩
  have yield_ : ∀ {i : Nat} {o : Oper} {ρ : Env} {w : World} {v : Value} {f : World → Prop} {m : Nat} {listed : Array Bool} {F : List (Nat × (World → Prop))}, ops[i]? = some o → cls P o.op ≠ 2 →
      Closed .any ops listed → i ∈ Region.ready .any ops listed → Region.free .any ops listed i = true → YieldsIf P ops f o v (act n ρ) → f w →
      (∀ p ∈ F, blk .any ops (isE P ops) (listed.setIfInBounds i true) p.1 = false → p.2 w) →
      G P .any ops (isE P ops) (QQ n N X R) ((i, f) :: F) m (listed.setIfInBounds i true) (act n (put ρ o.dst v)) w →
      G P .any ops (isE P ops) (QQ n N X R) F (m + 1) listed (act n ρ) w := by
    intro i o ρ w v f m listed F hi h2 hcl hr hf hy hfw hF hG
    have hE : isE P ops i = false := by unfold isE; rw [hi]; simpa using h2
    refine G.first hi hE hsel (hQ _ _) _ _ _ _ hcl (Region.free_spec hi hf) hr hy hfw hF ?_
    rw [put_act]; exact hG
  have eff : ∀ {i : Nat} {ρ : Env} {w : World} {m : Nat} {rd : Option (List Nat)} {listed : Array Bool} {F : List (Nat × (World → Prop))}, rd.getD (Region.ready .any ops listed) = [i] →
      wpOp P ops (QQ n N X R) i (fun a' w' => (∀ p ∈ F, blk .any ops (isE P ops) (listed.setIfInBounds i true) p.1 = false → p.2 w') ∧ G P .any ops (isE P ops) (QQ n N X R) F m (listed.setIfInBounds i true) a' w') (act n ρ) w →
      Aim P ops (QQ n N X R) F listed (act n ρ) w (m + 1) rd := by
    intro i ρ w m rd listed F hr h
    cases rd with
    | none =>
      simp only [Option.getD_none] at hr
      refine ⟨fun h0 => (by rw [hr] at h0; cases h0), fun j hj => ?_⟩
      rw [hr] at hj
      simp only [List.mem_singleton] at hj
      subst hj; exact h
    | some r =>
      simp only [Option.getD_some] at hr
      subst hr
      refine ⟨m, rfl, fun j hj => ?_⟩
      simp only [List.mem_singleton] at hj
      subst hj; exact h
  have rdy : ∀ {i : Nat} {rd : Option (List Nat)} {listed : Array Bool}, rd.getD (Region.ready .any ops listed) = [i] → (∀ r, rd = some r → ∀ i ∈ r, i ∈ Region.ready .any ops listed) → i ∈ Region.ready .any ops listed := by
    intro i rd listed h1 h2
    cases rd with
    | none => simp only [Option.getD_none] at h1; rw [h1]; simp
    | some r => simp only [Option.getD_some] at h1; exact h2 r rfl i (by rw [h1]; simp)
  have wop : ∀ {i : Nat} {o : Oper} {ρ : Env} {w : World} {K : Act → World → Prop}, ops[i]? = some o → wanted n ops ρ o = true → o.wp P (act n ρ) w K (QQ n N X R) → wpOp P ops (QQ n N X R) i K (act n ρ) w := by
    intro i o ρ w K hi hw h
    unfold wpOp; rw [hi]; simp only; unfold wanted at hw; rw [if_pos hw]; exact .inl h
  have facts' : ∀ {F : List (Nat × (World → Prop))} {listed : Array Bool} {loads : List Nat} {w w' : World} {i : Nat} {f : Bool}, Facts P S ops F listed loads w →
      (f = true ∨ ∀ l ∈ loads, blk .any ops (isE P ops) (listed.setIfInBounds i true) l = true) → (f = true → Exs S w w') → Facts P S ops F (listed.setIfInBounds i true) loads w' := by
    intro F listed loads w w' i f hF h1 h2
    exact hF.next (fun _ h => h) (h1.elim (fun h => .inr (h2 h)) .inl)
  have now : ∀ {F : List (Nat × (World → Prop))} {listed : Array Bool} {loads : List Nat} {w : World}, Facts P S ops F listed loads w → ∀ p ∈ F, blk .any ops (isE P ops) listed p.1 = false → p.2 w := by
    intro F listed loads w h p hp hb
    rcases h p hp with h | ⟨_, u, hu, h⟩
    · exact h w
    · rw [hu]; exact h hb
  have no : ∀ {listed : Array Bool}, ∀ r, (none : Option (List Nat)) = some r → ∀ i ∈ r, i ∈ Region.ready .any ops listed := fun r h => by cases h
  induction h with
  | dn h =>
    intro s rd listed loads F he hev hc hrd hcl hF
    cases s with
    | cons i f s => cases he
    | fork a b => cases he
    | nil =>
      unfold chk at hc
      simp only [Bool.and_eq_true, Option.isNone_iff_eq_none] at hc
      obtain ⟨rfl, hc⟩ := hc
      exact ⟨by simpa using hc, _, rfl, h⟩
  | @fk a b ρ w _ _ iha ihb =>
    intro s rd listed loads F he hev hc hrd hcl hF
    cases s with
    | nil => cases he
    | cons i f s => cases he
    | fork sa sb =>
      simp only [ST.ot, OT.fork.injEq] at he
      obtain ⟨rfl, rfl⟩ := he
      simp only [ST.even, Bool.and_eq_true, beq_iff_eq] at hev
      unfold chk at hc
      split at hc
      case h_2 => cases hc
      case h_1 r i j r' hr =>
        simp only [Bool.and_eq_true] at hc
        have hin : ∀ x ∈ i :: j :: r', x ∈ Region.ready .any ops listed := by
          intro x hx
          cases rd with
          | none => simp only [Option.getD_none] at hr; rw [hr]; exact hx
          | some rr => simp only [Option.getD_some] at hr; exact hrd rr rfl x (by rw [hr]; exact hx)
        obtain ⟨m, hm, h1⟩ := iha sa (some [i]) listed loads F rfl hev.1.1 hc.1 (fun r h x hx => by cases h; exact hin x (by simp at hx; simp [hx])) hcl hF
        obtain ⟨m2, hm2, h2⟩ := ihb sb (some (j :: r')) listed loads F rfl hev.1.2 hc.2 (fun r h x hx => by cases h; exact hin x (List.mem_cons_of_mem _ hx)) hcl hF
        have hmm : m2 = m := by have := hev.2; omega
        subst hmm
        have all : ∀ x ∈ i :: j :: r', wpOp P ops (QQ n N X R) x (fun a' w' => (∀ p ∈ F, blk .any ops (isE P ops) (listed.setIfInBounds x true) p.1 = false → p.2 w') ∧ G P .any ops (isE P ops) (QQ n N X R) F m2 (listed.setIfInBounds x true) a' w') (act n ρ) w := by
          intro x hx
          rcases List.mem_cons.1 hx with rfl | hx
          · exact h1 _ (by simp)
          · exact h2 _ hx
        show Aim P ops _ F listed _ w sa.size rd
        rw [hm]
        cases rd with
        | none =>
          simp only [Option.getD_none] at hr
          exact ⟨fun h0 => (by rw [hr] at h0; cases h0), fun x hx => all x (by rw [← hr]; exact hx)⟩
        | some rr =>
          simp only [Option.getD_some] at hr
          exact ⟨m2, rfl, fun x hx => all x (by rw [← hr]; exact hx)⟩
  | yp h0 hw hr _ ih =>
    intro s rd listed loads F he hev hc hrd hcl hF
    obtain ⟨i, s', rfl, hi, hr', hh⟩ := split he hc
    rcases hh with ⟨h2, _⟩ | ⟨h2, rfl, hrdy, hfr, hc'⟩
    · rw [h0] at h2; cases h2
    · refine yield_ (f := fun _ => True) hi h2 hcl hrdy hfr (.inl ⟨hw, fun u _ => by rw [eval_act']; exact hr u⟩) trivial (fun p hp hb => now hF p hp (blk_mono hb)) ?_
      refine ih s' none _ _ _ hr' hev hc' no (hcl.set hrdy) ?_
      intro p hp
      rcases List.mem_cons.1 hp with rfl | hp
      · exact .inl fun _ => trivial
      · exact hF.next (fun l hl => by split <;> simp [hl]) (.inr (Exs.refl _)) p hp
  | @yl o f rest ρ w v h1 hw hr _ ih =>
    intro s rd listed loads F he hev hc hrd hcl hF
    obtain ⟨i, s', rfl, hi, hr', hh⟩ := split he hc
    rcases hh with ⟨h2, _⟩ | ⟨h2, rfl, hrdy, hfr, hc'⟩
    · rw [h1] at h2; cases h2
    · refine yield_ (f := Exs S w) hi h2 hcl hrdy hfr (.inl ⟨hw, fun u hu => by rw [eval_act']; exact hr u hu⟩) (Exs.refl _) (fun p hp hb => now hF p hp (blk_mono hb)) ?_
      refine ih s' none _ _ _ hr' hev hc' no (hcl.set hrdy) ?_
      intro p hp
      rcases List.mem_cons.1 hp with rfl | hp
      · exact .inr ⟨by simp [h1], w, rfl, fun _ => Exs.refl _⟩
      · exact hF.next (fun l hl => by split <;> simp [hl]) (.inr (Exs.refl _)) p hp
  | @ef o f rest ρ w w' v h2 hw hr hfl _ ih =>
    intro s rd listed loads F he hev hc hrd hcl hF
    obtain ⟨i, s', rfl, hi, hr', hh⟩ := split he hc
    rcases hh with ⟨_, hrdy, hb, hc'⟩ | ⟨h2', _⟩
    · have hF' := facts' hF hb hfl
      refine eff hrdy (wop hi hw ?_)
      unfold Oper.wp; rw [eval_act', hr, Oper.upon_value, put_act]
      exact ⟨now hF', ih s' none _ _ _ hr' hev hc' no (hcl.set (rdy hrdy hrd)) hF'⟩
    · exact absurd h2 h2'
  | @es o f rest ρ w w' h2 hw hr hfl _ ih =>
    intro s rd listed loads F he hev hc hrd hcl hF
    obtain ⟨i, s', rfl, hi, hr', hh⟩ := split he hc
    rcases hh with ⟨_, hrdy, hb, hc'⟩ | ⟨h2', _⟩
    · have hF' := facts' hF hb hfl
      refine eff hrdy (wop hi hw ?_)
      unfold Oper.wp; rw [eval_act', hr, Oper.upon_skip, put_act]
      exact ⟨now hF', ih s' none _ _ _ hr' hev hc' no (hcl.set (rdy hrdy hrd)) hF'⟩
    · exact absurd h2 h2'
  | @cl o f rest ρ w g args M h2 hw hr hcall hfl _ ih =>
    intro s rd listed loads F he hev hc hrd hcl hF
    obtain ⟨i, s', rfl, hi, hr', hh⟩ := split he hc
    rcases hh with ⟨_, hrdy, hb, hc'⟩ | ⟨h2', _⟩
    · refine eff hrdy (wop hi hw ?_)
      unfold Oper.wp; rw [eval_act', hr, Oper.upon_enter]
      refine Calls.mono hcall ?_
      rintro e w'' ⟨v, rfl, hM⟩
      have hF' := facts' hF hb (hfl v w'' hM)
      show _ ∧ _
      rw [put_act]
      exact ⟨now hF', ih v w'' hM s' none _ _ _ hr' hev hc' no (hcl.set (rdy hrdy hrd)) hF'⟩
    · exact absurd h2 h2'
  | rd hsq' _ _ _ _ _ _ => rw [hsq] at hsq'; cases hsq'
  | @gn o f rest ρ w hw _ ih =>
    intro s rd listed loads F he hev hc hrd hcl hF
    obtain ⟨i, s', rfl, hi, hr', hh⟩ := split he hc
    rcases hh with ⟨_, hrdy, hb, hc'⟩ | ⟨h2, rfl, hrdy, hfr, hc'⟩
    · have hF' := facts' hF hb (fun _ => Exs.refl w)
      refine eff hrdy ?_
      unfold wpOp; rw [hi]; simp only; unfold wanted at hw; rw [if_neg (by rw [hw]; simp), put_act]
      exact ⟨now hF', ih s' none _ _ _ hr' hev hc' no (hcl.set (rdy hrdy hrd)) hF'⟩
    · refine yield_ (f := fun _ => True) hi h2 hcl hrdy hfr (.inr ⟨hw, rfl⟩) trivial (fun p hp hb => now hF p hp (blk_mono hb)) ?_
      refine ih s' none _ _ _ hr' hev hc' no (hcl.set hrdy) ?_
      intro p hp
      rcases List.mem_cons.1 hp with rfl | hp
      · exact .inl fun _ => trivial
      · exact hF.next (fun l hl => by split <;> simp [hl]) (.inr (Exs.refl _)) p hp
theorem W.ds {N : Post} {ρ : Env} {w : World} {id : Nat} (S : Nat → Prop) (s : ST) (hm : P.follows .mixedOrders = true) (hd : (ops.all fun o => match o.op with | .defer _ => false | _ => true) = true) (hc : (Region.noSelect ops && s.even && (s.size == ops.size) && ordered .any ops && chkF P ops s none (Array.replicate ops.size false) []) = true)
    (h : ∀ w1, w1 = w.drew → RL P n false S ops N (s.ot ops) ρ w1) : W P n ro (.region id ops true) N X R ρ w := by
  simp only [Bool.and_eq_true, beq_iff_eq] at hc
  have hc : ((Region.noSelect ops = true ∧ s.even = true) ∧ s.size = ops.size) ∧ chk P ops s none (Array.replicate ops.size false) [] = true := ⟨hc.1.1, by rw [← chkF_eq P hc.1.2]; exact hc.2⟩
  have hG : wpAny P .any ops (QQ n N X R) ops.size (Array.replicate ops.size false) (act n ρ) w.drew := by
    rw [← hc.1.2]
    refine G.any _ _ _ _ (G.of hc.1.1.1 rfl (h _ rfl) s none (Array.replicate s.size false) [] [] rfl hc.1.1.2 (by rw [hc.1.2]; exact hc.2) (fun r h => by cases h) ?_ ?_)
    · intro j o _ hj
      rw [getD_replicate_false'] at hj; cases hj
    · intro p hp; cases hp
  refine wpIn_region_draw fun t => ?_
  simp only [Region.schedule, hm, Bool.true_or, if_true]
  exact ops_in hd _ _ _ (wpAny_sound ops.size t _ _ _ hG)
  where
  getD_replicate_false' {m j : Nat} : (Array.replicate m false).getD j false = false := by
    rcases Nat.lt_or_ge j m with h | h
    · simp [h]
    · simp [h]
  ops_in {ops : Array Oper} (hd : (ops.all fun o => match o.op with | .defer _ => false | _ => true) = true) : ∀ (l : List Nat) (a : Act) (w : World), wpOps P ops (QQ n N X R) l a w → wpOpsIn (fw ro) 0 P ops (QQ n N X R) l a w
    | [], a, w, h => h
    | i :: rest, a, w, h => by
      unfold wpOps at h
      unfold wpOpsIn
      cases ho : ops[i]? with
      | none => rw [ho] at h; exact ops_in hd rest a w h
      | some o =>
        rw [ho] at h
        simp only at h ⊢
        by_cases hw : Region.wanted o (yielded ops a.tmps) = true
        · rw [if_pos hw] at h ⊢
          rcases h with h | ⟨_, a', w', h⟩
          · refine ⟨fun f _ => trivial, ?_⟩
            have hnd : ∀ c, o.op ≠ .defer c := by
              intro c hc
              have := Array.all_eq_true_iff_forall_mem.1 hd o (Array.mem_of_getElem? ho)
              rw [hc] at this; cases this
            rw [Oper.semAt_eq _ _ _ hnd]
            unfold Oper.wp at h
            generalize (execOp a.eval o).run P w = r at h
            cases r with
            | ok x w' =>
              cases x <;> simp only [Oper.upon, Oper.uponIn] at h ⊢
              case value v => exact ops_in hd rest _ _ h
              case skip => exact ops_in hd rest _ _ h
              case defer d => exact ops_in hd rest _ _ h
              case enter f args =>
                refine ⟨fw_depth _ _, calls_fw (Calls.mono h fun e w'' he => ?_)⟩
                cases e with
                | returned u => exact ops_in hd rest _ _ he
                | panicked c => exact he
                | outgrown => exact he
              case row row args => exact ⟨fw_depth _ _, fun c cs _ => by
                obtain ⟨v, w'', hq, hs⟩ := h c cs
                refine ⟨v, w'', ops_in hd rest _ _ hq, ?_⟩
                exact stepsIn_wide.2 hs⟩
            | halt x w' => cases x <;> simp only [Oper.upon, Oper.uponIn] at h ⊢; exact h
          · exact h.elim
        · rw [if_neg hw] at h ⊢
          exact ⟨fun f _ => trivial, ops_in hd rest _ _ h⟩
end
section
variable {P : Program} {n : Nat}
theorem getD_act (ρ : Env) (t : Nat) : (act n ρ).tmps.getD t undef = ev n ρ (.tmp t) := eval_act n ρ (.tmp t)
def Lv (P : Program) (K : World → Prop) : List Deferred → World → Prop
  | [], w => K w
  | d :: ds, w => ∃ r w', d.target = .collected r ∧ (Instr.takeDeferred r).run P w = .ok [] w' ∧ Lv P K ds w'
theorem Lv.mono {P : Program} {K K' : World → Prop} (h : ∀ w, K w → K' w) : ∀ {ds : List Deferred} {w : World}, Lv P K ds w → Lv P K' ds w
  | [], w, hk => h w hk
  | _ :: _, _, ⟨r, w', hd, ht, hk⟩ => ⟨r, w', hd, ht, Lv.mono h hk⟩
def Res (P : Program) (fn : Func) (n : Nat) (k : Value → World → Prop) : Post := fun ρ w => Lv P (fun w => ∃ v, (results fn (act n ρ).tmps).run P w = .ok v w ∧ k v w) ρ.ds w
def ini (l : List Value) : Env := ⟨nth l, []⟩
theorem Cl.enter {f : FuncId} {fn : Func} {c : Code} {args : List Value} {w : World} {k : Value → World → Prop}
    (hf : P.funcs[f]? = some fn) (hb : fn.body = some c) (hn : fn.ntmps = n) (ha : args.length ≤ n)
    (h : W P n none c (Res P fn n k) (fun _ _ _ => False) (Res P fn n k) (ini args) w) : Cl P f args w k := by
  refine (callsIn_wide (n := 0)).1 (callsIn_of_wp_marks (F := Fence.wide) hf hb trivial ?_)
  have e : ({ tmps := args.toArray ++ Array.replicate (fn.ntmps - args.toArray.size) undef, defers := [] } : Act) = act n (ini args) := by
    subst hn
    simp only [act, ini]
    congr 1
    apply Array.ext
    · simp; omega
    · intro i h1 h2
      simp only [Array.getElem_ofFn]
      have key : ∀ (l : List Value) (i m : Nat) (h : i < (l ++ List.replicate m undef).length), (l ++ List.replicate m undef)[i] = nth l i := by
        intro l
        induction l with
        | nil => intro i m h; simp [nth]
        | cons v l ih =>
          intro i m h
          cases i with
          | zero => rfl
          | succ i => simpa [nth] using ih i m (by simpa using h)
      have := key args i (fn.ntmps - args.length) (by simp; simp at h1; omega)
      rw [← this]
      simp only [List.size_toArray, ← List.toArray_replicate, List.append_toArray, List.getElem_toArray]
  rw [e]
  refine wpIn_mono (F := Fence.wide) h ?_
  have leave0 : ∀ (T : Array Value) (ds : List Deferred) (w : World), Lv P (fun w => ∃ v, (results fn T).run P w = .ok v w ∧ k v w) ds w → LeavesInM Fence.wide 0 P fn T (fun e w' => ∃ v, e = .returned v ∧ k v w') ds .returning w := by
    intro T ds
    induction ds with
    | nil =>
      rintro w ⟨v, hv, hk⟩
      exact ⟨v, hv, v, rfl, hk⟩
    | cons d ds ih =>
      rintro w ⟨r, w', hd, ht, h⟩
      exact ⟨by simp, .inl ⟨r, w', hd, ht, ih _ h⟩⟩
  have leave : ∀ (ρ : Env) (w : World), Res P fn n k ρ w → LeavesInM Fence.wide 0 P fn (act n ρ).tmps (fun e w' => ∃ v, e = .returned v ∧ k v w') (act n ρ).defers .returning w := fun ρ w h => leave0 _ _ _ h
  intro e a w h
  cases e with
  | normal => obtain ⟨ρ, rfl, h⟩ := h; exact leave ρ w h
  | ret => obtain ⟨ρ, rfl, h⟩ := h; exact leave ρ w h
  | exit j => obtain ⟨ρ, rfl, h⟩ := h; exact h.elim
  | goto j => obtain ⟨ρ, rfl, h⟩ := h; exact h.elim
  | panic c => exact h.elim
  | outgrown => exact h.elim
theorem Res.r1 {fn : Func} {k : Value → World → Prop} {ρ : Env} {w : World} {t : Tmp} (h : fn.results = #[.tmp t]) (v : Value) (hv : ev n ρ (.tmp t) = v) (hk : Lv P (k v) ρ.ds w) : Res P fn n k ρ w :=
  Lv.mono (fun w hk => ⟨_, results_tmp h _ P w, by rw [getD_act, hv]; exact hk⟩) hk
theorem Res.rs {fn : Func} {k : Value → World → Prop} {ρ : Env} {w : World} {ts : List Tmp} {vs : List Value} (h : fn.results = (ts.map ResultVar.tmp).toArray) (h1 : ts.length ≠ 1) (hv : ts.map (fun t => ev n ρ (.tmp t)) = vs)
    (hk : Lv P (k (.tuple vs.toArray)) ρ.ds w) : Res P fn n k ρ w := by
  refine Lv.mono (fun w hk => ⟨.tuple vs.toArray, ?_, hk⟩) hk
  have key : ∀ (ts : List Tmp) (f : ResultVar → Sem Value), (∀ t, (f (.tmp t)).run P w = .ok (ev n ρ (.tmp t)) w) → ((ts.map ResultVar.tmp).mapM f).run P w = .ok (ts.map fun t => ev n ρ (.tmp t)) w := by
    intro ts f hf
    induction ts with
    | nil => rfl
    | cons t ts ih => simp only [List.map_cons, List.mapM_cons, Sem.run_bind, Sem.run_pure, Result.andThen_ok, hf, ih]
  unfold results
  simp only [h, List.mapM_toArray, Sem.run_bind, Sem.run_map]
  rw [key ts _ (fun t => by simp only [Sem.run_pure, getD_act])]
  subst hv
  simp only [Result.andThen_ok, List.size_toArray, List.length_map, h1, dite_false, Sem.run_pure]
end
end Go.V
set_option linter.unusedSimpArgs false
set_option linter.unusedVariables false
namespace Go.V
abbrev Str := List UInt8
def mkS (l : Str) : ByteArray := ⟨l.toArray⟩
structure Sl where
  base : Option Addr
  len : Nat
  cap : Nat
abbrev w64 (n : Int) : Int := IntKind.i64.wrap n
theorem mkS_toList (s : ByteArray) : mkS s.data.toList = s := by cases s; simp [mkS]
@[simp] theorem size_mkS (l : Str) : (mkS l).size = l.length := by simp [mkS, ByteArray.size]
@[simp] theorem data_mkS (l : Str) : (mkS l).data.toList = l := by simp [mkS]
theorem mkS_append (a b : Str) : mkS a ++ mkS b = mkS (a ++ b) := by
  apply ByteArray.ext
  simp [mkS]
theorem toList_mkS (l : Str) : (mkS l).toList = l := by
  have := ByteArray.toList_eq (mkS l)
  simpa using this
def Sz (P : Program) (t : TypeId) (s : Nat) : Prop := (P.info? t).map (·.size) = some s
def Zr (P : Program) (t : TypeId) (v : Value) : Prop := (P.info? t).bind (·.zero) = some v
def aggD : TypeDesc → Bool
  | .struct _ | .array _ _ => true
  | _ => false
def One (P : Program) (t : TypeId) : Prop := (P.underlying t).map aggD = some false ∧ Sz P t 1
def Agg (P : Program) (t : TypeId) (s : Nat) : Prop := (P.underlying t).map aggD = some true ∧ Sz P t s
def fldOf (f : Nat) : Option TypeDesc → Option (Nat × TypeId)
  | some (.struct fs) => (fs[f]?).map fun fd => (fd.offset, fd.type)
  | _ => none
def Fld (P : Program) (s : TypeId) (f off : Nat) (t : TypeId) (z : Nat) : Prop := fldOf f (P.underlying s) = some (off, t) ∧ Sz P t (z + 1)
def IsFn (P : Program) (f : FuncId) : Prop := (P.funcs[f]?).map (fun fn => (fn.name == "runtime.NumGoroutine", fn.body.isNone)) = some (false, false)
theorem Sz.mk {P : Program} {t : TypeId} {s : Nat} (h : (P.info? t).map (·.size) = some s) : Sz P t s := h
theorem Zr.mk {P : Program} {t : TypeId} {v : Value} (h : (P.info? t).bind (·.zero) = some v) : Zr P t v := h
theorem IsFn.mk {P : Program} {f : FuncId} (h : (P.funcs[f]?).map (fun fn => (fn.name == "runtime.NumGoroutine", fn.body.isNone)) = some (false, false)) : IsFn P f := h
section
variable {P : Program} {n : Nat} {sq : Bool} {S : Nat → Prop} {ro : Option Nat} {ops : Array Oper} {rest : OT} {f' : Bool} {N : Post} {ρ : Env} {w : World} {g : Option (Nat × Bool)}
variable {t : TypeId} {p : String} {af : Array Edge} {d : Nat}
theorem run_sizeOf {t : TypeId} {s : Nat} (h : Sz P t s) (w : World) : (sizeOf t).run P w = .ok s w := by
  unfold Sz at h; obtain ⟨i, hi, rfl⟩ := Option.map_eq_some_iff.1 h; simp [sizeOf, typeInfo, hi]
theorem run_zeroValue {t : TypeId} {v : Value} (h : Zr P t v) (w : World) : (zeroValue t).run P w = .ok v w := by
  unfold Zr at h; obtain ⟨i, hi, h2⟩ := Option.bind_eq_some_iff.1 h; simp [zeroValue, typeInfo, hi, h2]
theorem run_isAgg_one {t : TypeId} (h : One P t) (w : World) : (isAgg t).run P w = .ok false w := by
  obtain ⟨d, h, h2⟩ := Option.map_eq_some_iff.1 h.1; simp only [isAgg, Sem.run_bind, run_underlying h, Result.andThen_ok]; cases d <;> first | rfl | exact (Bool.noConfusion h2)
theorem run_isAgg_agg {t : TypeId} {s : Nat} (h : Agg P t s) (w : World) : (isAgg t).run P w = .ok true w := by
  obtain ⟨d, h, h2⟩ := Option.map_eq_some_iff.1 h.1; simp only [isAgg, Sem.run_bind, run_underlying h, Result.andThen_ok]; cases d <;> first | rfl | exact (Bool.noConfusion h2)
theorem RL.mv {x : Operand} (hg : wanted n ops ρ ⟨some d, .move x, t, p, af, g⟩ = true) (v : Value) (hx : ev n ρ x = v) (h : RL P n sq S ops N rest (upd ρ d v) w) : RL P n sq S ops N (.cons ⟨some d, .move x, t, p, af, g⟩ f' rest) ρ w :=
  RL.yp (v := v) rfl hg (fun u => by subst hx; rfl) h
theorem RL.as {x : Operand} (hg : wanted n ops ρ ⟨some d, .assign x, t, p, af, g⟩ = true) (v : Value) (hx : ev n ρ x = v) (h : RL P n sq S ops N rest (upd ρ d v) w) : RL P n sq S ops N (.cons ⟨some d, .assign x, t, p, af, g⟩ f' rest) ρ w :=
  RL.yp (v := v) rfl hg (fun u => by subst hx; rfl) h
theorem RL.pt {c x y : Operand} (hg : wanted n ops ρ ⟨some d, .pick c x y, t, p, af, g⟩ = true) (v : Value) (hc : ev n ρ c = .bool true) (hx : ev n ρ x = v)
    (h : RL P n sq S ops N rest (upd ρ d v) w) : RL P n sq S ops N (.cons ⟨some d, .pick c x y, t, p, af, g⟩ f' rest) ρ w :=
  RL.yp (v := v) rfl hg (fun u => by simp only [execOp, hc, hx]; rfl) h
theorem RL.pf {c x y : Operand} (hg : wanted n ops ρ ⟨some d, .pick c x y, t, p, af, g⟩ = true) (v : Value) (hc : ev n ρ c = .bool false) (hy : ev n ρ y = v)
    (h : RL P n sq S ops N rest (upd ρ d v) w) : RL P n sq S ops N (.cons ⟨some d, .pick c x y, t, p, af, g⟩ f' rest) ρ w :=
  RL.yp (v := v) rfl hg (fun u => by simp only [execOp, hc, hy]; rfl) h
theorem RL.nc {x : Operand} {a : Addr} (hg : wanted n ops ρ ⟨some d, .nilCheck x, t, p, af, g⟩ = true) (hx : ev n ρ x = .pointer (some a)) (h : RL P n sq S ops N rest (upd ρ d (.pointer (some a))) w) :
    RL P n sq S ops N (.cons ⟨some d, .nilCheck x, t, p, af, g⟩ f' rest) ρ w :=
  RL.yp (v := .pointer (some a)) rfl hg (fun u => by simp only [execOp, hx]; rfl) h
theorem RL.fa {s : TypeId} {x : Operand} {f : Nat} {a : Addr} {off : Nat} {ft : TypeId} {z : Nat} (hg : wanted n ops ρ ⟨some d, .fieldAddr s x f, t, p, af, g⟩ = true) (hf : Fld P s f off ft z) (hx : ev n ρ x = .pointer (some a))
    (h : RL P n sq S ops N rest (upd ρ d (.pointer (some (a.add off)))) w) : RL P n sq S ops N (.cons ⟨some d, .fieldAddr s x f, t, p, af, g⟩ f' rest) ρ w := by
  obtain ⟨hf, h5⟩ := hf
  unfold fldOf at hf
  split at hf
  case h_2 => cases hf
  case h_1 fs h1 =>
  obtain ⟨fd, h2, h3⟩ := Option.map_eq_some_iff.1 hf
  obtain ⟨rfl, rfl⟩ := Prod.mk.inj h3
  refine RL.yp (v := .pointer (some (a.add fd.offset))) rfl hg (fun u => ?_) h
  simp [execOp, hx, Instr.fieldAt, run_underlying h1, h2, Instr.sureAddr, fieldPlace, run_sizeOf h5]
theorem RL.ld {x : Operand} {a : Addr} {ty : TypeId} (hg : wanted n ops ρ ⟨some d, .load ty x, t, p, af, g⟩ = true) (v : Value) (ht : One P ty) (hx : ev n ρ x = .pointer (some a)) (hc : w.cell? a = some v)
    (h : RL P n sq N0 ops N rest (upd ρ d v) w) : RL P n sq N0 ops N (.cons ⟨some d, .load ty x, t, p, af, g⟩ f' rest) ρ w := by
  refine RL.yl (v := v) rfl hg (fun u hu => ?_) h
  simp only [execOp, hx, Instr.loadAt, Instr.sureAddr, loadVar, Sem.run_bind, Sem.run_pure, Result.andThen_ok, run_isAgg_one ht, Bool.false_eq_true, if_false]
  have : (load a).run P u = .ok v u := by simp only [load, Sem.run, hu.e.cell hc]
  rw [this]; rfl
theorem RL.lds {x : Operand} {a : Addr} {ty : TypeId} (hg : wanted n ops ρ ⟨some d, .load ty x, t, p, af, g⟩ = true) (v : Value) (ht : One P ty) (hx : ev n ρ x = .pointer (some a)) (hS : ¬ S a.block) (hc : w.cell? a = some v)
    (h : RL P n sq S ops N rest (upd ρ d v) w) : RL P n sq S ops N (.cons ⟨some d, .load ty x, t, p, af, g⟩ f' rest) ρ w := by
  refine RL.yl (v := v) rfl hg (fun u hu => ?_) h
  simp only [execOp, hx, Instr.loadAt, Instr.sureAddr, loadVar, Sem.run_bind, Sem.run_pure, Result.andThen_ok, run_isAgg_one ht, Bool.false_eq_true, if_false]
  have : (load a).run P u = .ok v u := by simp only [load, Sem.run, hu.cell hS hc]
  rw [this]; rfl
def cellsAt (w : World) (a : Addr) : Nat → List Value → Prop
  | _, [] => True
  | i, v :: l => w.cell? (a.add i) = some v ∧ cellsAt w a (i + 1) l
theorem cellsAt_get {w : World} {a : Addr} : ∀ {l : List Value} {i : Nat}, cellsAt w a i l → ∀ j v, l[j]? = some v → w.cell? (a.add (i + j)) = some v
  | [], _, _, j, v, h => by simp at h
  | u :: l, i, h, 0, v, hv => by simp at hv; subst hv; exact h.1
  | u :: l, i, h, j + 1, v, hv => by
    have := cellsAt_get h.2 j v (by simpa using hv)
    rw [show i + (j + 1) = i + 1 + j from by omega]; exact this
theorem cellsAt_ext {w u : World} {a : Addr} (hu : Ext w u) : ∀ {l : List Value} {i : Nat}, cellsAt w a i l → cellsAt u a i l
  | [], _, _ => trivial
  | _ :: _, _, h => ⟨hu.cell h.1, cellsAt_ext hu h.2⟩
theorem run_loadAgg {ty : TypeId} {a : Addr} {l : List Value} (ht : Agg P ty l.length) (hc : cellsAt w a 0 l) : (loadVar ty a).run P w = .ok (.agg l.toArray) w := by
  have hz : Sz P ty l.length := ht.2
  have := run_loadCells_list (P := P) (w := w) a l (fun j v hv => by have := cellsAt_get hc j v hv; simpa using this)
  simp only [loadVar, Sem.run_bind, Sem.run_pure, Result.andThen_ok, run_isAgg_agg ht, if_true, run_sizeOf hz, this]
theorem RL.la {x : Operand} {a : Addr} {ty : TypeId} (hg : wanted n ops ρ ⟨some d, .load ty x, t, p, af, g⟩ = true) (l : List Value) (ht : Agg P ty l.length) (hx : ev n ρ x = .pointer (some a)) (hc : cellsAt w a 0 l)
    (h : RL P n sq N0 ops N rest (upd ρ d (.agg l.toArray)) w) : RL P n sq N0 ops N (.cons ⟨some d, .load ty x, t, p, af, g⟩ f' rest) ρ w := by
  refine RL.yl (v := .agg l.toArray) rfl hg (fun u hu => ?_) h
  simp only [execOp, hx, Instr.loadAt, Instr.sureAddr, Sem.run_bind, Sem.run_pure, Result.andThen_ok, run_loadAgg ht (cellsAt_ext hu.e hc)]
theorem RL.al {ty : TypeId} {z : Value} (hg : wanted n ops ρ ⟨some d, .alloc ty, t, p, af, g⟩ = true) (hz : Zr P ty z) (h : ∀ b w1, b = w.heap.size → w1 = w.alloc (.cells z.cells ty) → RL P n sq S ops N rest (upd ρ d (.pointer (some ⟨b, 0, none⟩))) w1) :
    RL P n sq S ops N (.cons ⟨some d, .alloc ty, t, p, af, g⟩ f' rest) ρ w := by
  refine RL.ef (v := .pointer (some ⟨w.heap.size, 0, none⟩)) (w' := w.alloc (.cells z.cells ty)) rfl hg ?_ (fun _ => (Ext.alloc _ _).s) (h _ _ rfl rfl)
  simp only [execOp, Instr.alloc, Sem.run_bind, run_zeroValue hz, Result.andThen_ok, newVar, newRow]
  rfl
theorem RL.bx {ty : TypeId} {x : Operand} (hg : wanted n ops ρ ⟨some d, .box ty x, t, p, af, g⟩ = true) (v : Value) (hx : ev n ρ x = v) (h : ∀ b w1, b = w.heap.size → w1 = w.alloc (.cells v.cells ty) → RL P n sq S ops N rest (upd ρ d (.pointer (some ⟨b, 0, none⟩))) w1) :
    RL P n sq S ops N (.cons ⟨some d, .box ty x, t, p, af, g⟩ f' rest) ρ w := by
  refine RL.ef (v := .pointer (some ⟨w.heap.size, 0, none⟩)) (w' := w.alloc (.cells v.cells ty)) rfl hg ?_ (fun _ => (Ext.alloc _ _).s) (h _ _ rfl rfl)
  subst hx; rfl
theorem run_store' {a : Addr} {v u : Value} (hv : v.oneCell' = true) (hc : w.cell? a = some u) (hf : w.frozen? a = false) : (store a v).run P w = .ok () (w.setCell a v) := by
  rw [run_store P w a v _ hv]; simp [hc, hf]
theorem RL.st {x y : Operand} {a : Addr} {ty : TypeId} (hfl : f' = false) (hg : wanted n ops ρ ⟨none, .store ty x y, t, p, af, g⟩ = true) (v : Value) (ht : One P ty) (hx : ev n ρ x = .pointer (some a)) (hy : ev n ρ y = v) (hv : v.oneCell' = true)
    (h : (w.cell? a).isSome = true ∧ w.frozen? a = false ∧ ∀ w1, w1 = w.setCell a v → RL P n sq S ops N rest ρ w1) : RL P n sq S ops N (.cons ⟨none, .store ty x y, t, p, af, g⟩ f' rest) ρ w := by
  obtain ⟨hc, hf, h⟩ := h
  obtain ⟨u, hc⟩ := Option.isSome_iff_exists.1 hc
  refine RL.es (w' := w.setCell a v) rfl hg ?_ (fun e => by rw [hfl] at e; cases e) (h _ rfl)
  have hs : v.cells = #[v] := by cases v <;> first | rfl | simp [Value.oneCell'] at hv
  have hz : Sz P ty 1 := ht.2
  simp only [execOp, hx, hy, Instr.storeAt, Instr.sureAddr, storeVar, Sem.run_bind, Sem.run_pure, Result.andThen_ok, run_sizeOf hz, hs, storeCells]
  have h0 : a.add 0 = a := rfl
  simp [h0, run_store' hv hc hf]
def setCells (w : World) (a : Addr) : Nat → List Value → World
  | _, [] => w
  | i, v :: l => setCells (w.setCell (a.add i) v) a (i + 1) l
def mayCells (w : World) (a : Addr) (i m : Nat) : Prop := ∀ j, i ≤ j → j < i + m → (w.cell? (a.add j)).isSome = true ∧ w.frozen? (a.add j) = false
theorem isSome_setCell {w : World} {a b : Addr} {v : Value} (h : (w.cell? b).isSome = true) : ((w.setCell a v).cell? b).isSome = true := by
  by_cases e : a = b
  · subst e; obtain ⟨u, hu⟩ := Option.isSome_iff_exists.1 h; rw [World.cell?_setCell_same (h := hu)]; rfl
  · rw [World.cell?_setCell_other (h := e)]; exact h
theorem run_storeCells' {a : Addr} : ∀ (l : List Value) (i : Nat) (w : World), (∀ v ∈ l, v.oneCell' = true) → mayCells w a i l.length →
    (storeCells a l i).run P w = .ok () (setCells w a i l)
  | [], i, w, _, _ => rfl
  | v :: l, i, w, h1, hm => by
    obtain ⟨hc, hf⟩ := hm i (Nat.le_refl _) (by simp)
    obtain ⟨u, hc⟩ := Option.isSome_iff_exists.1 hc
    have ih := run_storeCells' (a := a) l (i + 1) (w.setCell (a.add i) v) (fun v hv => h1 v (List.mem_cons_of_mem _ hv)) (fun j h1 h2 => by
      have := hm j (by omega) (by simp; omega)
      exact ⟨isSome_setCell this.1, by rw [World.frozen?_setCell]; exact this.2⟩)
    simp only [storeCells, Sem.run_bind, run_store' (h1 v (List.mem_cons_self ..)) hc hf, Result.andThen_ok, ih, setCells]
theorem RL.sa {x y : Operand} {a : Addr} {ty : TypeId} (hfl : f' = false) (hg : wanted n ops ρ ⟨none, .store ty x y, t, p, af, g⟩ = true) (l : List Value) (ht : Agg P ty l.length) (hx : ev n ρ x = .pointer (some a)) (hy : ev n ρ y = .agg l.toArray) (hv : l.all (·.oneCell') = true)
    (h : mayCells w a 0 l.length ∧ ∀ w1, w1 = setCells w a 0 l → RL P n sq S ops N rest ρ w1) : RL P n sq S ops N (.cons ⟨none, .store ty x y, t, p, af, g⟩ f' rest) ρ w := by
  obtain ⟨hc, h⟩ := h
  refine RL.es (w' := setCells w a 0 l) rfl hg ?_ (fun e => by rw [hfl] at e; cases e) (h _ rfl)
  have hz : Sz P ty l.length := ht.2
  have hs := run_storeCells' (P := P) (a := a) l 0 w (by simpa using hv) hc
  simp only [execOp, hx, hy, Instr.storeAt, Instr.sureAddr, storeVar, Value.cells, Sem.run_bind, Sem.run_pure, Result.andThen_ok, run_sizeOf hz]
  simp [hs]
def iop (op : BinOp) (k : IntKind) (a b : Int) : Option Value :=
  match op with
  | .add => some (.int k (k.wrap (a + b)))
  | .sub => some (.int k (k.wrap (a - b)))
  | .mul => some (.int k (k.wrap (a * b)))
  | .and => some (.int k (k.wrap (BitVec.ofInt k.bits a &&& BitVec.ofInt k.bits b).toNat))
  | .or => some (.int k (k.wrap (BitVec.ofInt k.bits a ||| BitVec.ofInt k.bits b).toNat))
  | .xor => some (.int k (k.wrap (BitVec.ofInt k.bits a ^^^ BitVec.ofInt k.bits b).toNat))
  | .andNot => some (.int k (k.wrap (BitVec.ofInt k.bits a &&& ~~~BitVec.ofInt k.bits b).toNat))
  | .eql => some (.bool (a == b))
  | .neq => some (.bool (a != b))
  | .lss => some (.bool (decide (a < b)))
  | .leq => some (.bool (decide (a ≤ b)))
  | .gtr => some (.bool (decide (b < a)))
  | .geq => some (.bool (decide (b ≤ a)))
  | _ => none
theorem RL.ib {op : BinOp} {k : IntKind} {x y : Operand} {xt yt : TypeId} {a b : Int} (hg : wanted n ops ρ ⟨some d, .binOp op xt x y yt, t, p, af, g⟩ = true) (v : Value) (hx : ev n ρ x = .int k a) (hy : ev n ρ y = .int k b) (hv : iop op k a b = some v)
    (h : RL P n sq S ops N rest (upd ρ d v) w) : RL P n sq S ops N (.cons ⟨some d, .binOp op xt x y yt, t, p, af, g⟩ f' rest) ρ w := by
  refine RL.yp (v := v) rfl hg (fun u => ?_) h
  simp only [execOp, hx, hy]
  cases op <;> simp only [iop, Option.some.injEq, reduceCtorEq] at hv <;> subst hv <;>
    simp [eqGuard, binOp, Op.intArith, Op.intBits, Op.intCmp, Sem.run_pure, GT.gt, GE.ge]
theorem RL.sl {k yk : IntKind} {x y : Operand} {xt yt : TypeId} {a b : Int} (hg : wanted n ops ρ ⟨some d, .binOp .shl xt x y yt, t, p, af, g⟩ = true) (hx : ev n ρ x = .int k a) (hy : ev n ρ y = .int yk b)
    (h : 0 ≤ b ∧ RL P n sq S ops N rest (upd ρ d (.int k (k.wrap (a * 2 ^ (min b.toNat k.bits))))) w) : RL P n sq S ops N (.cons ⟨some d, .binOp .shl xt x y yt, t, p, af, g⟩ f' rest) ρ w := by
  refine RL.yp (v := .int k (k.wrap (a * 2 ^ (min b.toNat k.bits)))) rfl hg (fun u => ?_) h.2
  simp [execOp, hx, hy, eqGuard, binOp, Op.shift, Int.not_lt.2 h.1]
theorem RL.sr {k yk : IntKind} {x y : Operand} {xt yt : TypeId} {a b : Int} (hg : wanted n ops ρ ⟨some d, .binOp .shr xt x y yt, t, p, af, g⟩ = true) (hx : ev n ρ x = .int k a) (hy : ev n ρ y = .int yk b)
    (h : 0 ≤ b ∧ RL P n sq S ops N rest (upd ρ d (.int k (a.fdiv (2 ^ (min b.toNat k.bits))))) w) : RL P n sq S ops N (.cons ⟨some d, .binOp .shr xt x y yt, t, p, af, g⟩ f' rest) ρ w := by
  refine RL.yp (v := .int k (a.fdiv (2 ^ (min b.toNat k.bits)))) rfl hg (fun u => ?_) h.2
  simp [execOp, hx, hy, eqGuard, binOp, Op.shift, Int.not_lt.2 h.1]
theorem RL.qu {k : IntKind} {x y : Operand} {xt yt : TypeId} {a b : Int} (hg : wanted n ops ρ ⟨some d, .binOp .quo xt x y yt, t, p, af, g⟩ = true) (hx : ev n ρ x = .int k a) (hy : ev n ρ y = .int k b)
    (h : b ≠ 0 ∧ RL P n sq S ops N rest (upd ρ d (.int k (k.wrap (a.tdiv b)))) w) : RL P n sq S ops N (.cons ⟨some d, .binOp .quo xt x y yt, t, p, af, g⟩ f' rest) ρ w := by
  refine RL.yp (v := .int k (k.wrap (a.tdiv b))) rfl hg (fun u => ?_) h.2
  simp [execOp, hx, hy, eqGuard, binOp, Op.intDiv, h.1]
theorem RL.rm {k : IntKind} {x y : Operand} {xt yt : TypeId} {a b : Int} (hg : wanted n ops ρ ⟨some d, .binOp .rem xt x y yt, t, p, af, g⟩ = true) (hx : ev n ρ x = .int k a) (hy : ev n ρ y = .int k b)
    (h : b ≠ 0 ∧ RL P n sq S ops N rest (upd ρ d (.int k (a.tmod b))) w) : RL P n sq S ops N (.cons ⟨some d, .binOp .rem xt x y yt, t, p, af, g⟩ f' rest) ρ w := by
  refine RL.yp (v := .int k (a.tmod b)) rfl hg (fun u => ?_) h.2
  simp [execOp, hx, hy, eqGuard, binOp, Op.intDiv, h.1]
theorem RL.nt {x : Operand} {xt : TypeId} {b : Bool} (hg : wanted n ops ρ ⟨some d, .unOp .not xt x, t, p, af, g⟩ = true) (hx : ev n ρ x = .bool b)
    (h : RL P n sq S ops N rest (upd ρ d (.bool (!b))) w) : RL P n sq S ops N (.cons ⟨some d, .unOp .not xt x, t, p, af, g⟩ f' rest) ρ w :=
  RL.yp (v := .bool (!b)) rfl hg (fun u => by simp [execOp, hx, Op.unary]) h
def sop (op : BinOp) (a b : Str) : Option Bool :=
  match op with
  | .eql => some (a == b)
  | .neq => some (!(a == b))
  | .lss => some (Op.bytesLess a b)
  | .leq => some (Op.bytesLess a b || a == b)
  | .gtr => some (!(Op.bytesLess a b || a == b))
  | .geq => some (!(Op.bytesLess a b))
  | _ => none
theorem RL.sb {op : BinOp} {x y : Operand} {xt yt : TypeId} {a b : Str} (hg : wanted n ops ρ ⟨some d, .binOp op xt x y yt, t, p, af, g⟩ = true) (v : Bool) (hx : ev n ρ x = .string (mkS a)) (hy : ev n ρ y = .string (mkS b)) (hv : sop op a b = some v)
    (h : RL P n sq S ops N rest (upd ρ d (.bool v)) w) : RL P n sq S ops N (.cons ⟨some d, .binOp op xt x y yt, t, p, af, g⟩ f' rest) ρ w := by
  refine RL.yp (v := .bool v) rfl hg (fun u => ?_) h
  simp only [execOp, hx, hy]
  cases op <;> simp only [sop, Option.some.injEq, reduceCtorEq] at hv <;> subst hv <;>
    simp [eqGuard, binOp, Op.stringOp, toList_mkS]
theorem RL.sc {x y : Operand} {xt yt : TypeId} {a b : Str} (hg : wanted n ops ρ ⟨some d, .binOp .add xt x y yt, t, p, af, g⟩ = true) (hx : ev n ρ x = .string (mkS a)) (hy : ev n ρ y = .string (mkS b))
    (h : a.length + b.length ≤ 9223372036854775807 ∧ RL P n sq S ops N rest (upd ρ d (.string (mkS (a ++ b)))) w) : RL P n sq S ops N (.cons ⟨some d, .binOp .add xt x y yt, t, p, af, g⟩ f' rest) ρ w := by
  refine RL.yp (v := .string (mkS (a ++ b))) rfl hg (fun u => ?_) h.2
  have hb : ¬ (((mkS a).size + (mkS b).size : Nat) : Int) > IntKind.i64.max := by
    have : IntKind.i64.max = 9223372036854775807 := rfl
    simp only [size_mkS, this]; omega
  simp only [execOp, hx, hy, eqGuard, binOp, Op.stringOp, if_neg hb, mkS_append]
  simp
theorem RL.ix {x y : Operand} {xt : TypeId} {a : Str} {k : IntKind} {i : Int} (hg : wanted n ops ρ ⟨some d, .index xt x y, t, p, af, g⟩ = true) (hd : P.underlying xt = some .string) (hx : ev n ρ x = .string (mkS a)) (hy : ev n ρ y = .int k i)
    (h : (0 ≤ i ∧ i < a.length) ∧ RL P n sq S ops N rest (upd ρ d (.int .u8 ((a.getD i.toNat 0).toNat))) w) : RL P n sq S ops N (.cons ⟨some d, .index xt x y, t, p, af, g⟩ f' rest) ρ w := by
  refine RL.yp (v := .int .u8 ((a.getD i.toNat 0).toNat)) rfl hg (fun u => ?_) h.2
  obtain ⟨⟨h0, h1⟩, _⟩ := h
  have hlt : i.toNat < a.length := by omega
  have hg : (mkS a)[i.toNat]? = some (a.getD i.toNat 0) := by
    rw [getElem?_pos (mkS a) i.toNat (by rw [size_mkS]; exact hlt)]
    simp [mkS, ByteArray.getElem_eq_getElem_data, hlt]
  simp [execOp, hx, hy, Instr.index, asIntOf, run_underlying hd, h0, hg]
theorem RL.ln {x : Operand} {ty : TypeId} {a : Str} (hg : wanted n ops ρ ⟨some d, .call ⟨.builtin .len, #[x], #[ty]⟩, t, p, af, g⟩ = true) (hd : P.underlying ty = some .string) (hx : ev n ρ x = .string (mkS a))
    (h : RL P n sq S ops N rest (upd ρ d (.int .i64 a.length)) w) : RL P n sq S ops N (.cons ⟨some d, .call ⟨.builtin .len, #[x], #[ty]⟩, t, p, af, g⟩ f' rest) ρ w := by
  refine RL.yp (v := .int .i64 a.length) (by simp [cls, hd]) hg (fun u => ?_) h
  simp [execOp, hx, resolve, invoke, builtin, Builtin.len_, run_underlying hd, goInt]
theorem RL.ll {x : Operand} {ty e : TypeId} {a : Option Addr} {l c : Nat} (hg : wanted n ops ρ ⟨some d, .call ⟨.builtin .len, #[x], #[ty]⟩, t, p, af, g⟩ = true) (hd : P.underlying ty = some (.slice e)) (hx : ev n ρ x = .slice a l c)
    (h : RL P n sq S ops N rest (upd ρ d (.int .i64 l)) w) : RL P n sq S ops N (.cons ⟨some d, .call ⟨.builtin .len, #[x], #[ty]⟩, t, p, af, g⟩ f' rest) ρ w := by
  refine RL.yp (v := .int .i64 l) (by simp [cls, hd]) hg (fun u => ?_) h
  simp [execOp, hx, resolve, invoke, builtin, Builtin.len_, run_underlying hd, goInt]
def sub (a : Str) (l h : Int) : Str := (a.drop l.toNat).take (h.toNat - l.toNat)
theorem extract_mkS (a : Str) (l h : Nat) : (mkS a).extract l h = mkS ((a.drop l).take (h - l)) := by
  apply ByteArray.ext
  simp [mkS, ByteArray.data_extract, List.extract_eq_take_drop]
theorem run_sliceBound {k : IntKind} {i : Int} {y : Nat} {c : BoundsCode} (h0 : 0 ≤ i) (h1 : i ≤ y) (w : World) : (Instr.sliceBound (.int k i) y c).run P w = .ok i.toNat w := by
  simp [Instr.sliceBound, asIntOf, h0, h1]
def bd (ρ : Env) (n : Nat) (x : Option Operand) (dflt : Int) (i : Int) : Prop :=
  match x with
  | none => i = dflt
  | some o => ∃ k, ev n ρ o = .int k i
theorem run_bounds {isS : Bool} {l c : Nat} {lo hi : Option Operand} {i j : Int} (hlo : bd ρ n lo 0 i) (hhi : bd ρ n hi l j) (hi1 : (hi.isNone = true ∨ j ≤ c)) (h0 : 0 ≤ i) (hij : i ≤ j) (w : World) :
    (Instr.sliceBounds isS l c (lo.map (ev n ρ)) (hi.map (ev n ρ)) none).run P w = .ok (i.toNat, j.toNat, c) w := by
  cases hi with
  | none =>
    simp only [bd] at hhi; subst hhi
    cases lo with
    | none => simp only [bd] at hlo; subst hlo; simp [Instr.sliceBounds]
    | some o =>
      obtain ⟨k, hk⟩ := hlo
      simp [Instr.sliceBounds, hk, run_sliceBound (P := P) h0 hij]
  | some o' =>
    obtain ⟨k', hk'⟩ := hhi
    have hjc : j ≤ c := by simpa using hi1
    have hj0 : 0 ≤ j := by omega
    cases lo with
    | none => simp only [bd] at hlo; subst hlo; simp [Instr.sliceBounds, hk', run_sliceBound (P := P) hj0 hjc]
    | some o =>
      obtain ⟨k, hk⟩ := hlo
      have hij' : i ≤ (j.toNat : Int) := by omega
      simp [Instr.sliceBounds, hk, hk', run_sliceBound (P := P) hj0 hjc, run_sliceBound (P := P) h0 hij']
theorem RL.ss {x : Operand} {lo hi : Option Operand} {xt : TypeId} {a : Str} {i j : Int} (hg : wanted n ops ρ ⟨some d, .slice xt x lo hi none, t, p, af, g⟩ = true) (hd : P.underlying xt = some .string) (hx : ev n ρ x = .string (mkS a)) (hlo : bd ρ n lo 0 i) (hhi : bd ρ n hi a.length j)
    (h : (0 ≤ i ∧ i ≤ j ∧ j ≤ a.length) ∧ RL P n sq S ops N rest (upd ρ d (.string (mkS (sub a i j)))) w) : RL P n sq S ops N (.cons ⟨some d, .slice xt x lo hi none, t, p, af, g⟩ f' rest) ρ w := by
  obtain ⟨⟨h0, hij, hj⟩, h⟩ := h
  refine RL.yp (v := .string (mkS (sub a i j))) rfl hg (fun u => ?_) h
  have hl : (mkS a).size = a.length := size_mkS a
  have hb := fun u => run_bounds (P := P) (n := n) (ρ := ρ) (isS := false) (l := a.length) (c := a.length) (lo := lo) (hi := hi) hlo hhi (.inr hj) h0 hij u
  simp [execOp, hx, Instr.sliceAt, Instr.slice, run_underlying hd, hb, extract_mkS, sub]
def slS (s : Sl) (size : Nat) (i j : Int) : Sl := ⟨if s.cap = i.toNat then s.base else s.base.map (·.add (i.toNat * size)), j.toNat - i.toNat, s.cap - i.toNat⟩
theorem RL.sS {x : Operand} {lo hi : Option Operand} {xt e : TypeId} {s : Sl} {sz : Nat} {i j : Int} (hg : wanted n ops ρ ⟨some d, .slice xt x lo hi none, t, p, af, g⟩ = true) (hd : P.underlying xt = some (.slice e)) (hz : Sz P e sz) (hx : ev n ρ x = .slice s.base s.len s.cap) (hlo : bd ρ n lo 0 i) (hhi : bd ρ n hi s.len j)
    (h : (0 ≤ i ∧ i ≤ j ∧ (hi.isNone = true ∨ j ≤ s.cap)) ∧ RL P n sq S ops N rest (upd ρ d (.slice (slS s sz i j).base (slS s sz i j).len (slS s sz i j).cap)) w) : RL P n sq S ops N (.cons ⟨some d, .slice xt x lo hi none, t, p, af, g⟩ f' rest) ρ w := by
  obtain ⟨⟨h0, hij, hj⟩, h⟩ := h
  refine RL.yp (v := .slice (slS s sz i j).base (slS s sz i j).len (slS s sz i j).cap) rfl hg (fun u => ?_) h
  have hb := fun u => run_bounds (P := P) (n := n) (ρ := ρ) (isS := true) (l := s.len) (c := s.cap) (lo := lo) (hi := hi) hlo hhi hj h0 hij u
  simp [execOp, hx, Instr.sliceAt, Instr.slice, run_underlying hd, hb, run_sizeOf hz, slS]
theorem RL.sA {x : Operand} {lo hi : Option Operand} {xt e : TypeId} {a : Addr} {m sz : Nat} {i j : Int} (hg : wanted n ops ρ ⟨some d, .slice xt x lo hi none, t, p, af, g⟩ = true) (hd : P.underlying xt = some (.array m e)) (hz : Sz P e sz) (hx : ev n ρ x = .pointer (some a)) (hlo : bd ρ n lo 0 i) (hhi : bd ρ n hi m j)
    (h : (0 ≤ i ∧ i ≤ j ∧ j ≤ m) ∧ RL P n sq S ops N rest (upd ρ d (.slice (slS ⟨some a, m, m⟩ sz i j).base (slS ⟨some a, m, m⟩ sz i j).len (slS ⟨some a, m, m⟩ sz i j).cap)) w) : RL P n sq S ops N (.cons ⟨some d, .slice xt x lo hi none, t, p, af, g⟩ f' rest) ρ w := by
  obtain ⟨⟨h0, hij, hj⟩, h⟩ := h
  refine RL.yp (v := .slice (slS ⟨some a, m, m⟩ sz i j).base (slS ⟨some a, m, m⟩ sz i j).len (slS ⟨some a, m, m⟩ sz i j).cap) rfl hg (fun u => ?_) h
  have hb := fun u => run_bounds (P := P) (n := n) (ρ := ρ) (isS := false) (l := m) (c := m) (lo := lo) (hi := hi) hlo hhi (.inr hj) h0 hij u
  simp [execOp, hx, Instr.sliceAt, Instr.sureAddr, run_underlying hd, hb, run_sizeOf hz, slS]
  split <;> rfl
theorem RL.ia {x y : Operand} {xt e : TypeId} {s : Sl} {sz : Nat} {k : IntKind} {i : Int} (hg : wanted n ops ρ ⟨some d, .indexAddr xt x y, t, p, af, g⟩ = true) (hd : P.underlying xt = some (.slice e)) (hz : Sz P e sz) (hx : ev n ρ x = .slice s.base s.len s.cap) (hy : ev n ρ y = .int k i)
    (h : ∃ a, s.base = some a ∧ (0 ≤ i ∧ i < s.len) ∧ RL P n sq S ops N rest (upd ρ d (.pointer (some (a.add (i.toNat * sz))))) w) : RL P n sq S ops N (.cons ⟨some d, .indexAddr xt x y, t, p, af, g⟩ f' rest) ρ w := by
  obtain ⟨a, ha, hi, h⟩ := h
  refine RL.yp (v := .pointer (some (a.add (i.toNat * sz)))) rfl hg (fun u => ?_) h
  simp [execOp, hx, hy, Instr.indexAt, asIntOf, run_underlying hd, ha, hi, run_sizeOf hz]
theorem RL.iA {x y : Operand} {xt e : TypeId} {a : Addr} {m sz : Nat} {k : IntKind} {i : Int} (hg : wanted n ops ρ ⟨some d, .indexAddr xt x y, t, p, af, g⟩ = true) (hd : P.underlying xt = some (.array m e)) (hz : Sz P e sz) (hx : ev n ρ x = .pointer (some a)) (hy : ev n ρ y = .int k i)
    (h : (0 ≤ i ∧ i < m) ∧ RL P n sq S ops N rest (upd ρ d (.pointer (some (a.add (i.toNat * sz))))) w) : RL P n sq S ops N (.cons ⟨some d, .indexAddr xt x y, t, p, af, g⟩ f' rest) ρ w := by
  obtain ⟨hi, h⟩ := h
  refine RL.yp (v := .pointer (some (a.add (i.toNat * sz)))) rfl hg (fun u => ?_) h
  simp [execOp, hx, hy, Instr.indexAt, Instr.sureAddr, asIntOf, run_underlying hd, hi, run_sizeOf hz]
theorem RL.ex {x : Operand} {i : Nat} {l : List Value} (hg : wanted n ops ρ ⟨some d, .extract x i, t, p, af, g⟩ = true) (v : Value) (hx : ev n ρ x = .tuple l.toArray) (hv : l[i]? = some v)
    (h : RL P n sq S ops N rest (upd ρ d v) w) : RL P n sq S ops N (.cons ⟨some d, .extract x i, t, p, af, g⟩ f' rest) ρ w :=
  RL.yp (v := v) rfl hg (fun u => by simp [execOp, hx, Instr.extract, hv]) h
theorem RL.bu {ty : TypeId} {ps : Array (Nat × Operand)} {qs : List (Nat × Value)} (hg : wanted n ops ρ ⟨some d, .build ty ps, t, p, af, g⟩ = true) (v : Value) (hp : (ps.toList.map fun (i, x) => (i, ev n ρ x)) = qs) (hv : ∀ w, (Instr.build ty qs.toArray).run P w = .ok v w)
    (h : RL P n sq S ops N rest (upd ρ d v) w) : RL P n sq S ops N (.cons ⟨some d, .build ty ps, t, p, af, g⟩ f' rest) ρ w := by
  refine RL.yp (v := v) rfl hg (fun u => ?_) h
  have : (ps.map fun (i, x) => (i, ev n ρ x)) = qs.toArray := Array.ext' (by simpa using hp)
  simp [execOp, this, hv]
theorem RL.bs {ty : TypeId} {m : Nat} {ps : Array (Nat × Operand)} {qs : List (Nat × Value)} {cs : List Value} {e : TypeId} (hg : wanted n ops ρ ⟨some d, .buildSlice ty m ps, t, p, af, g⟩ = true) (hp : (ps.toList.map fun (i, x) => (i, ev n ρ x)) = qs)
    (hv : ∀ w, (Instr.buildSlice ty m qs.toArray).run P w = .ok (.slice (some ⟨w.heap.size, 0, none⟩) m m) (w.alloc (.cells cs.toArray e)))
    (h : ∀ b w1, b = w.heap.size → w1 = w.alloc (.cells cs.toArray e) → RL P n sq S ops N rest (upd ρ d (.slice (some ⟨b, 0, none⟩) m m)) w1) : RL P n sq S ops N (.cons ⟨some d, .buildSlice ty m ps, t, p, af, g⟩ f' rest) ρ w := by
  refine RL.ef (v := .slice (some ⟨w.heap.size, 0, none⟩) m m) (w' := w.alloc (.cells cs.toArray e)) rfl hg ?_ (fun _ => (Ext.alloc _ _).s) (h _ _ rfl rfl)
  have : (ps.map fun (i, x) => (i, ev n ρ x)) = qs.toArray := Array.ext' (by simpa using hp)
  simp [execOp, this, hv]
theorem RL.fd {xt : TypeId} {x : Operand} {f : Nat} {vx : Value} (hg : wanted n ops ρ ⟨some d, .field xt x f, t, p, af, g⟩ = true) (v : Value) (hx : ev n ρ x = vx) (hv : ∀ w, (Instr.field xt vx f).run P w = .ok v w)
    (h : RL P n sq S ops N rest (upd ρ d v) w) : RL P n sq S ops N (.cons ⟨some d, .field xt x f, t, p, af, g⟩ f' rest) ρ w := by
  subst hx
  exact RL.yp (v := v) rfl hg (fun u => by simp [execOp, hv]) h
theorem RL.iX {xt : TypeId} {x y : Operand} {vx vy : Value} (hg : wanted n ops ρ ⟨some d, .index xt x y, t, p, af, g⟩ = true) (v : Value) (hx : ev n ρ x = vx) (hy : ev n ρ y = vy)
    (h : (∀ u, (Instr.index xt vx vy).run P u = .ok v u) ∧ RL P n sq S ops N rest (upd ρ d v) w) : RL P n sq S ops N (.cons ⟨some d, .index xt x y, t, p, af, g⟩ f' rest) ρ w := by
  subst hx hy
  exact RL.yp (v := v) rfl hg (fun u => by simp [execOp, h.1]) h.2
def Pu (P : Program) {α : Type} (s : Sem α) (v : α) : Prop := ∀ u, s.run P u = .ok v u
def Rd (P : Program) (w : World) {α : Type} (s : Sem α) (v : α) : Prop := ∀ u, Ext w u → s.run P u = .ok v u
theorem RL.ci {src dst : TypeId} {k : IntKind} {x : Operand} {k' : IntKind} {a : Int} (hg : wanted n ops ρ ⟨some d, .convert src dst x, t, p, af, g⟩ = true) {ks : IntKind} (hs : P.underlying src = some (.int ks)) (hd : P.underlying dst = some (.int k)) (hx : ev n ρ x = .int k' a)
    (h : RL P n sq S ops N rest (upd ρ d (.int k (k.wrap a))) w) : RL P n sq S ops N (.cons ⟨some d, .convert src dst x, t, p, af, g⟩ f' rest) ρ w := by
  refine RL.yp (v := .int k (k.wrap a)) (by simp only [cls, hs, hd]) hg (fun u => ?_) h
  simp [execOp, hx, convert, run_underlying hs, run_underlying hd, Conv.intToInt]
def bytesAt (w : World) (s : Sl) (l : Str) : Prop := (s.base = none ∧ l = []) ∨ ∃ a, s.base = some a ∧ l.length = s.len ∧ ∀ i, i < s.len → w.cell? (a.add i) = some (.int .u8 ((l.getD i 0).toNat))
theorem RL.cb {src dst e : TypeId} {x : Operand} {s : Sl} (hg : wanted n ops ρ ⟨some d, .convert src dst x, t, p, af, g⟩ = true) (hs : P.underlying src = some (.slice e)) (hd : P.underlying dst = some .string) (he : P.underlying e = some (.int .u8)) (hx : ev n ρ x = .slice s.base s.len s.cap) (l : Str)
    (h : bytesAt w s l ∧ RL P n sq N0 ops N rest (upd ρ d (.string (mkS l))) w) : RL P n sq N0 ops N (.cons ⟨some d, .convert src dst x, t, p, af, g⟩ f' rest) ρ w := by
  refine RL.yl (v := .string (mkS l)) (by simp only [cls, hs]) hg (fun u hu => have hu := hu.e; ?_) h.2
  rcases h.1 with ⟨hb, rfl⟩ | ⟨a, hb, hl, hc⟩
  · simp [execOp, hx, hb, convert, run_underlying hs, run_underlying hd, run_underlying he, Conv.bytesToString]
    rfl
  · have hz : (loadCells a s.len).run P u = .ok ((l.map fun b => (b.toNat : Int)).map (Value.int .u8)).toArray u := by
      have := run_loadCells_list (P := P) (w := u) a ((l.map fun b => (b.toNat : Int)).map (Value.int .u8)) (fun j v hv => by
        simp only [List.map_map, List.getElem?_map, Option.map_eq_some_iff, Function.comp] at hv
        obtain ⟨b, hb, rfl⟩ := hv
        have hj : j < s.len := by rw [← hl]; exact (List.getElem?_eq_some_iff.1 hb).1
        rw [hu.cell (hc j hj), List.getD_eq_getElem?_getD, hb]; rfl)
      simpa [hl] using this
    have hr := run_bytesToString (P := P) u a s.len s.cap _ hz
    have hfold : ∀ (l : Str) (r : Str), (l.map fun b => (b.toNat : Int)).foldl (fun r n => r.push (UInt8.ofNat n.toNat)) (mkS r) = mkS (r ++ l) := by
      intro l
      induction l with
      | nil => intro r; simp
      | cons b l ih =>
        intro r
        simp only [List.map_cons, List.foldl_cons]
        have : (mkS r).push (UInt8.ofNat ((b.toNat : Int)).toNat) = mkS (r ++ [b]) := by
          apply ByteArray.ext
          simp [mkS]
        rw [this, ih]; simp
    have h0 := hfold l []
    have e0 : mkS [] = ByteArray.empty := rfl
    rw [e0] at h0
    rw [h0] at hr
    simp only [List.nil_append] at hr
    simp [execOp, hx, hb, run_convert_bytes_string u src dst e _ _ _ hs he hd, hr]
theorem RL.mf {f : Fn} {as_ bs : Array Operand} {va vb : List Value} (hg : wanted n ops ρ ⟨some d, .makeFunc f as_ bs, t, p, af, g⟩ = true) (ha : as_.toList.map (ev n ρ) = va) (hb : bs.toList.map (ev n ρ) = vb)
    (h : RL P n sq S ops N rest (upd ρ d (.func f va.toArray vb.toArray)) w) : RL P n sq S ops N (.cons ⟨some d, .makeFunc f as_ bs, t, p, af, g⟩ f' rest) ρ w := by
  refine RL.yp (v := .func f va.toArray vb.toArray) rfl hg (fun u => ?_) h
  have h1 : as_.map (ev n ρ) = va.toArray := Array.ext' (by simpa using ha)
  have h2 : bs.map (ev n ρ) = vb.toArray := Array.ext' (by simpa using hb)
  simp [execOp, Instr.makeFunc, h1, h2]
theorem run_callFunc {f : FuncId} (hf : IsFn P f) (args : Array Value) (w : World) : (callFunc f args).run P w = .ok (.enter f args) w := by
  unfold IsFn at hf
  obtain ⟨fn, h, h3⟩ := Option.map_eq_some_iff.1 hf
  obtain ⟨h1, h2⟩ := Prod.mk.inj h3
  have h1' : fn.name ≠ "runtime.NumGoroutine" := by simpa using h1
  have h2' : fn.body ≠ none := by intro e; rw [e] at h2; cases h2
  simp [callFunc, h, h1', h2']
theorem RL.ca {f : FuncId} {dd : Option Nat} {as_ : Array Operand} {ts : Array TypeId} {va : List Value} (hfl : f' = false) (hg : wanted n ops ρ ⟨dd, .call ⟨.value (.func f), as_, ts⟩, t, p, af, g⟩ = true) (hf : IsFn P f) (ha : as_.toList.map (ev n ρ) = va)
    (h : Cl P f va w fun v w'' => RL P n sq S ops N rest (put ρ dd v) w'') : RL P n sq S ops N (.cons ⟨dd, .call ⟨.value (.func f), as_, ts⟩, t, p, af, g⟩ f' rest) ρ w := by
  refine RL.cl rfl hg (g := f) (args := va) ?_ h (fun _ _ _ e => by rw [hfl] at e; cases e) (fun _ _ h => h)
  have h1 : as_.map (ev n ρ) = va.toArray := Array.ext' (by simpa using ha)
  simp [execOp, resolve, Deferred.ofValue, invoke, ev, h1, run_callFunc hf]
theorem RL.cx {f : FuncId} {dd : Option Nat} {as_ : Array Operand} {ts : Array TypeId} {va : List Value} (hg : wanted n ops ρ ⟨dd, .call ⟨.value (.func f), as_, ts⟩, t, p, af, g⟩ = true) (hf : IsFn P f) (ha : as_.toList.map (ev n ρ) = va)
    (h : Cl P f va w fun v w'' => Ext w w'' ∧ RL P n sq S ops N rest (put ρ dd v) w'') : RL P n sq S ops N (.cons ⟨dd, .call ⟨.value (.func f), as_, ts⟩, t, p, af, g⟩ f' rest) ρ w := by
  refine RL.cl rfl hg (g := f) (args := va) ?_ h (fun _ _ h _ => h.1.s) (fun _ _ h => h.2)
  have h1 : as_.map (ev n ρ) = va.toArray := Array.ext' (by simpa using ha)
  simp [execOp, resolve, Deferred.ofValue, invoke, ev, h1, run_callFunc hf]
theorem RL.cv {x : Operand} {f : FuncId} {caps : List Value} {dd : Option Nat} {as_ : Array Operand} {ts : Array TypeId} {va : List Value} (hfl : f' = false) (hg : wanted n ops ρ ⟨dd, .call ⟨.value x, as_, ts⟩, t, p, af, g⟩ = true) (hf : IsFn P f) (hx : ev n ρ x = .func (.func f) #[] caps.toArray) (ha : as_.toList.map (ev n ρ) = va)
    (h : Cl P f (va ++ caps) w fun v w'' => RL P n sq S ops N rest (put ρ dd v) w'') : RL P n sq S ops N (.cons ⟨dd, .call ⟨.value x, as_, ts⟩, t, p, af, g⟩ f' rest) ρ w := by
  refine RL.cl rfl hg (g := f) (args := va ++ caps) ?_ h (fun _ _ _ e => by rw [hfl] at e; cases e) (fun _ _ h => h)
  have h1 : as_.map (ev n ρ) = va.toArray := Array.ext' (by simpa using ha)
  simp [execOp, resolve, Deferred.ofValue, invoke, hx, h1, run_callFunc hf]
def Cw (P : Program) (fv : Value) (args : List Value) (w : World) (k : Value → World → Prop) : Prop := ∃ f caps, fv = .func (.func f) #[] (List.toArray caps) ∧ IsFn P f ∧ Cl P f (args ++ caps) w k
def Cv (P : Program) (fv : Value) (args : List Value) (w : World) (k : Value → World → Prop) : Prop := Cw P fv args w k ∨ ∃ l, fv = .func (.yield l) #[] #[] ∧ Yd P l args w k
theorem Cw.mono {fv : Value} {args : List Value} {w : World} {k k' : Value → World → Prop} (h : Cw P fv args w k) (hk : ∀ v w', k v w' → k' v w') : Cw P fv args w k' :=
  let ⟨f, caps, e, hf, h⟩ := h; ⟨f, caps, e, hf, h.mono hk⟩
theorem Yd.mono {l : Nat} {args : List Value} {w : World} {k k' : Value → World → Prop} (h : Yd P l args w k) (hk : ∀ v w', k v w' → k' v w') : Yd P l args w k' :=
  let ⟨r, h1, h2, h⟩ := h; ⟨r, h1, h2, h.mono fun _ _ ⟨v, e, h⟩ => ⟨v, e, hk _ _ h⟩⟩
theorem Cv.mono {fv : Value} {args : List Value} {w : World} {k k' : Value → World → Prop} (h : Cv P fv args w k) (hk : ∀ v w', k v w' → k' v w') : Cv P fv args w k' :=
  h.elim (fun h => .inl (h.mono hk)) fun ⟨l, e, h⟩ => .inr ⟨l, e, h.mono hk⟩
theorem Cv.of {f : FuncId} {caps args : List Value} {w : World} {k : Value → World → Prop} (hf : IsFn P f) (h : Cl P f (args ++ caps) w k) : Cv P (.func (.func f) #[] caps.toArray) args w k := .inl ⟨f, caps, rfl, hf, h⟩
theorem RL.ce {x : Operand} {dd : Option Nat} {as_ : Array Operand} {ts : Array TypeId} {va : List Value} {fv : Value} (hfl : f' = false) (hg : wanted n ops ρ ⟨dd, .call ⟨.value x, as_, ts⟩, t, p, af, g⟩ = true) (hx : ev n ρ x = fv) (ha : as_.toList.map (ev n ρ) = va)
    (h : Cw P fv va w fun v w'' => RL P n sq S ops N rest (put ρ dd v) w'') : RL P n sq S ops N (.cons ⟨dd, .call ⟨.value x, as_, ts⟩, t, p, af, g⟩ f' rest) ρ w := by
  obtain ⟨f, caps, rfl, hf, h⟩ := h
  exact RL.cv hfl hg hf hx ha h
theorem RL.cd {x : Operand} {dd : Option Nat} {as_ : Array Operand} {ts : Array TypeId} {va : List Value} {fv : Value} (hsq : sq = true) (hfl : f' = false) (hg : wanted n ops ρ ⟨dd, .call ⟨.value x, as_, ts⟩, t, p, af, g⟩ = true) (hx : ev n ρ x = fv) (ha : as_.toList.map (ev n ρ) = va)
    (h : Cv P fv va w fun v w'' => RL P n sq S ops N rest (put ρ dd v) w'') : RL P n sq S ops N (.cons ⟨dd, .call ⟨.value x, as_, ts⟩, t, p, af, g⟩ f' rest) ρ w := by
  rcases h with h | ⟨l, rfl, r, hr, hs, h⟩
  · exact RL.ce hfl hg hx ha h
  · refine RL.rd hsq hg (fun c => by simp) ?_ h (fun v w' h => h)
    have h1 : as_.map (ev n ρ) = va.toArray := Array.ext' (by simpa using ha)
    simp [execOp, resolve, Deferred.ofValue, invoke, hx, h1, run_yield hr (args := va.toArray) (by simpa using hs)]
theorem RL.lk {mt : TypeId} {x y : Operand} {ok : Bool} {vm vk : Value} (hg : wanted n ops ρ ⟨some d, .lookup mt x y ok, t, p, af, g⟩ = true) (v : Value) (hx : ev n ρ x = vm) (hy : ev n ρ y = vk)
    (h : Rd P w (Instr.lookup mt vm vk ok) v ∧ RL P n sq N0 ops N rest (upd ρ d v) w) : RL P n sq N0 ops N (.cons ⟨some d, .lookup mt x y ok, t, p, af, g⟩ f' rest) ρ w := by
  subst hx hy
  exact RL.yl (v := v) rfl hg (fun u hu => by simp [execOp, h.1 u hu.e]) h.2
theorem RL.mi {mt : TypeId} {x y z : Operand} {vm vk vv : Value} (hfl : f' = false) (hg : wanted n ops ρ ⟨none, .insert mt x y z, t, p, af, g⟩ = true) (hx : ev n ρ x = vm) (hy : ev n ρ y = vk) (hz : ev n ρ z = vv)
    (h : ∃ w1, (Instr.mapUpdate mt vm vk vv).run P w = .ok () w1 ∧ RL P n sq S ops N rest ρ w1) : RL P n sq S ops N (.cons ⟨none, .insert mt x y z, t, p, af, g⟩ f' rest) ρ w := by
  subst hx hy hz
  obtain ⟨w1, h1, h⟩ := h
  exact RL.es (w' := w1) rfl hg (by simp [execOp, h1]) (fun e => by rw [hfl] at e; cases e) h
theorem RL.mm {mt : TypeId} (hg : wanted n ops ρ ⟨some d, .makeMap mt none, t, p, af, g⟩ = true) (h : ∀ b w1, b = w.heap.size → w1 = w.alloc (.map #[] 0) → RL P n sq S ops N rest (upd ρ d (.map (some b))) w1) :
    RL P n sq S ops N (.cons ⟨some d, .makeMap mt none, t, p, af, g⟩ f' rest) ρ w := by
  refine RL.ef (v := .map (some w.heap.size)) (w' := w.alloc (.map #[] 0)) rfl hg ?_ (fun _ => (Ext.alloc _ _).s) (h _ _ rfl rfl)
  simp only [execOp, Instr.makeMap]; rfl
theorem RL.ap {x y : Operand} {ts : Array TypeId} {vx vy : Value} (hfl : f' = false) (hg : wanted n ops ρ ⟨some d, .call ⟨.builtin .append, #[x, y], ts⟩, t, p, af, g⟩ = true) (hx : ev n ρ x = vx) (hy : ev n ρ y = vy)
    (h : ∃ s w1, (Builtin.append_ ts t #[vx, vy]).run P w = .ok (.slice (Sl.base s) s.len s.cap) w1 ∧ RL P n sq S ops N rest (upd ρ d (.slice s.base s.len s.cap)) w1) :
    RL P n sq S ops N (.cons ⟨some d, .call ⟨.builtin .append, #[x, y], ts⟩, t, p, af, g⟩ f' rest) ρ w := by
  obtain ⟨s, w1, hr, h⟩ := h
  refine RL.ef (v := .slice s.base s.len s.cap) (w' := w1) rfl hg ?_ (fun e => by rw [hfl] at e; cases e) h
  simp [execOp, resolve, invoke, builtin, hx, hy, hr]
theorem RL.cy {x y : Operand} {ts : Array TypeId} {vx vy : Value} {dd : Option Nat} (hfl : f' = false) (hg : wanted n ops ρ ⟨dd, .call ⟨.builtin .copy, #[x, y], ts⟩, t, p, af, g⟩ = true) (hx : ev n ρ x = vx) (hy : ev n ρ y = vy)
    (h : ∃ m w1, (Builtin.copy_ ts t #[vx, vy]).run P w = .ok (.int .i64 m) w1 ∧ RL P n sq S ops N rest (put ρ dd (.int .i64 m)) w1) :
    RL P n sq S ops N (.cons ⟨dd, .call ⟨.builtin .copy, #[x, y], ts⟩, t, p, af, g⟩ f' rest) ρ w := by
  obtain ⟨m, w1, hr, h⟩ := h
  refine RL.ef (v := .int .i64 m) (w' := w1) rfl hg ?_ (fun e => by rw [hfl] at e; cases e) h
  simp [execOp, resolve, invoke, builtin, hx, hy, hr]
theorem RL.mn {x y : Operand} {ts : Array TypeId} {k : IntKind} {a b : Int} (hg : wanted n ops ρ ⟨some d, .call ⟨.builtin .min, #[x, y], ts⟩, t, p, af, g⟩ = true) (hx : ev n ρ x = .int k a) (hy : ev n ρ y = .int k b)
    (h : RL P n sq S ops N rest (upd ρ d (.int k (if b < a then b else a))) w) : RL P n sq S ops N (.cons ⟨some d, .call ⟨.builtin .min, #[x, y], ts⟩, t, p, af, g⟩ f' rest) ρ w := by
  refine RL.yp (v := .int k (if b < a then b else a)) rfl hg (fun u => ?_) h
  simp [execOp, resolve, invoke, builtin, Builtin.min_, Builtin.min2, hx, hy]
theorem RL.mk {ty : TypeId} {x y : Operand} {k k' : IntKind} {i j : Int} (hfl : f' = false) (hg : wanted n ops ρ ⟨some d, .makeSlice ty x y, t, p, af, g⟩ = true) (hx : ev n ρ x = .int k i) (hy : ev n ρ y = .int k' j)
    (h : ∃ s w1, (Instr.makeSlice ty (.int k i) (.int k' j)).run P w = .ok (.slice (Sl.base s) s.len s.cap) w1 ∧ RL P n sq S ops N rest (upd ρ d (.slice s.base s.len s.cap)) w1) :
    RL P n sq S ops N (.cons ⟨some d, .makeSlice ty x y, t, p, af, g⟩ f' rest) ρ w := by
  obtain ⟨s, w1, hr, h⟩ := h
  refine RL.ef (v := .slice s.base s.len s.cap) (w' := w1) rfl hg ?_ (fun e => by rw [hfl] at e; cases e) h
  simp [execOp, hx, hy, hr]
theorem wanted_y {j : Nat} {b : Bool} {o : Oper} {e : Nat} (hg : o.guard = some (j, b)) (hj : (ops[j]?).bind (·.dst) = some e) (hv : ev n ρ (.tmp e) = .bool b) : wanted n ops ρ o = true := by
  have hd : yielded ops (act n ρ).tmps j = some b := by
    rw [yielded_act, hj]
    simp only [ev] at hv
    cases hlt : Nat.blt e n
    · rw [hlt] at hv; cases hv
    · rw [hlt] at hv; simp only [cond_true] at hv; simp [hv, hlt]
  unfold wanted Region.wanted; rw [hg]; simp only; rw [hd]; simp
theorem wanted_n {j : Nat} {b b' : Bool} {o : Oper} {e : Nat} (hg : o.guard = some (j, b)) (hj : (ops[j]?).bind (·.dst) = some e) (hv : ev n ρ (.tmp e) = .bool b') (hb : (b' == b) = false) : wanted n ops ρ o = false := by
  have hd : yielded ops (act n ρ).tmps j = some b' := by
    rw [yielded_act, hj]
    simp only [ev] at hv
    cases hlt : Nat.blt e n
    · rw [hlt] at hv; cases hv
    · rw [hlt] at hv; simp only [cond_true] at hv; simp [hv, hlt]
  unfold wanted Region.wanted; rw [hg]; simp only; rw [hd]; cases b <;> cases b' <;> simp_all
theorem uc {ρ ρ' : Env} {e : Nat} {v : Value} (h : ρ = ρ') (hv : ρ.f e = v) : ρ = upd ρ' e v := by
  subst h; obtain ⟨f, ds⟩ := ρ; unfold upd; congr 1; funext s
  cases hb : Nat.beq s e
  · rfl
  · rw [cond_true, ← hv, Nat.eq_of_beq_eq_true hb]
theorem su {N : Post} {ρ ρ' : Env} {w : World} (e : ρ = ρ') (h : N ρ' w) : N ρ w := e ▸ h
theorem W.cf {c : Operand} {x y : Code} {X : Nat → Post} {R : Post} (hc : ev n ρ c = .bool false) (h : W P n ro y N X R ρ w) : W P n ro (.cond c x y) N X R ρ w := wpIn_cond_false (by rw [eval_act]; exact hc) h
theorem run_eq_slice {e t : TypeId} (hd : P.underlying t = some (.slice e)) (o : Option Addr) (l c m : Nat) (u : World) : (Op.equalIn (m + 1) t (.slice o l c) (.slice none 0 0)).run P u = .ok o.isNone u := by
  cases o <;> simp [Op.equalIn, run_underlying hd]
theorem run_eq_bool {t : TypeId} (hd : P.underlying t = some .bool) (a b : Bool) (m : Nat) (u : World) : (Op.equalIn (m + 1) t (.bool a) (.bool b)).run P u = .ok (a == b) u := by
  simp [Op.equalIn, run_underlying hd]
theorem maxDepth_eq : Op.maxDepth = 9999 + 1 := rfl
theorem binOp_eql {t : TypeId} {x y : Value} (b : Bool) (u : World) (hx : (∀ k a, x ≠ .int k a) ∧ (∀ k a, x ≠ .float k a) ∧ (∀ k a b, x ≠ .complex k a b) ∧ (∀ s, x ≠ .string s)) (h : (Op.equal t x y).run P u = .ok b u) :
    (binOp .eql t x y).run P u = .ok (.bool b) u ∧ (binOp .neq t x y).run P u = .ok (.bool (!b)) u := by
  obtain ⟨h1, h2, h3, h4⟩ := hx
  constructor
  · unfold binOp
    cases x <;> first | exact absurd rfl (h1 _ _) | exact absurd rfl (h2 _ _) | exact absurd rfl (h3 _ _ _) | exact absurd rfl (h4 _) | (simp only [Sem.run_bind, h, Result.andThen_ok, Sem.run_pure])
  · unfold binOp
    cases x <;> first | exact absurd rfl (h1 _ _) | exact absurd rfl (h2 _ _) | exact absurd rfl (h3 _ _ _) | exact absurd rfl (h4 _) | (simp only [Sem.run_bind, h, Result.andThen_ok, Sem.run_pure])
theorem RL.sn {x y : Operand} {xt yt : TypeId} {o : Option Addr} {l c : Nat} {e : TypeId} (hg : wanted n ops ρ ⟨some d, .binOp .eql xt x y yt, t, p, af, g⟩ = true) (hd : P.underlying xt = some (.slice e)) (hx : ev n ρ x = .slice o l c) (hy : ev n ρ y = .slice none 0 0)
    (h : RL P n sq S ops N rest (upd ρ d (.bool o.isNone)) w) : RL P n sq S ops N (.cons ⟨some d, .binOp .eql xt x y yt, t, p, af, g⟩ f' rest) ρ w := by
  refine RL.yp (v := .bool o.isNone) rfl hg (fun u => ?_) h
  have h1 := (binOp_eql (P := P) (t := xt) (x := .slice o l c) (y := .slice none 0 0) o.isNone u (by simp) (by rw [Op.equal, maxDepth_eq]; exact run_eq_slice hd o l c 9999 u)).1
  simp only [execOp, hx, hy, eqGuard, Sem.run_bind, Sem.run_pure, Result.andThen_ok, h1]
  simp [h1]
theorem RL.bn {x y : Operand} {xt yt : TypeId} {a b : Bool} (hg : wanted n ops ρ ⟨some d, .binOp .neq xt x y yt, t, p, af, g⟩ = true) (hd : P.underlying xt = some .bool) (hx : ev n ρ x = .bool a) (hy : ev n ρ y = .bool b)
    (h : RL P n sq S ops N rest (upd ρ d (.bool (!(a == b)))) w) : RL P n sq S ops N (.cons ⟨some d, .binOp .neq xt x y yt, t, p, af, g⟩ f' rest) ρ w := by
  refine RL.yp (v := .bool (!(a == b))) rfl hg (fun u => ?_) h
  have h1 := (binOp_eql (P := P) (t := xt) (x := .bool a) (y := .bool b) (a == b) u (by simp) (by rw [Op.equal, maxDepth_eq]; exact run_eq_bool hd a b 9999 u)).2
  simp only [execOp, hx, hy, eqGuard, Sem.run_bind, Sem.run_pure, Result.andThen_ok, h1]
  simp [h1]
theorem RL.gd {o : Oper} {b : Bool} {e : Nat} (hv : ev n ρ (.tmp e) = .bool b) (ht : b = true → RL P n sq S ops N (.cons o f' rest) (upd ρ e (.bool true)) w) (hf : b = false → RL P n sq S ops N (.cons o f' rest) (upd ρ e (.bool false)) w) : RL P n sq S ops N (.cons o f' rest) ρ w := by
  have hr : ρ.f e = .bool b := by
    simp only [ev] at hv
    cases hlt : Nat.blt e n
    · rw [hlt] at hv; cases hv
    · rw [hlt] at hv; exact hv
  have he : upd ρ e (.bool b) = ρ := (uc rfl hr).symm
  cases b
  · rw [← he]; exact hf rfl
  · rw [← he]; exact ht rfl
theorem wanted_u {j : Nat} {b : Bool} {o : Oper} {e : Nat} (hg : o.guard = some (j, b)) (hj : (ops[j]?).bind (·.dst) = some e) (hv : ev n ρ (.tmp e) = undef) : wanted n ops ρ o = false := by
  have hd : yielded ops (act n ρ).tmps j = none := by
    rw [yielded_act, hj]
    simp only [ev] at hv
    cases hlt : Nat.blt e n
    · simp [hlt]
    · rw [hlt] at hv; simp only [cond_true] at hv; simp [hv, undef]
  unfold wanted Region.wanted; rw [hg]; simp only; rw [hd]; cases b <;> rfl
theorem RL.sv {d : Option Nat} {v v' : Value} (e : v = v') (h : RL P n sq S ops N rest (put ρ d v') w) : RL P n sq S ops N rest (put ρ d v) w := e ▸ h
def partV (P : Program) (t : TypeId) (cs : Array Value) (off : Nat) : Option Value :=
  match (P.underlying t).map aggD, (P.info? t).map (·.size) with
  | some true, some s => some (.agg (cs.extract off (off + s)))
  | some false, _ => cs[off]?
  | _, _ => none
def eqFs (P : Program) (c : TypeId → Value → Value → Option Bool) (xs ys : Array Value) : List Field → Option Bool
  | [] => some true
  | f :: r => bif f.name == "_" then none else
    match partV P f.type xs f.offset, partV P f.type ys f.offset with
    | some x, some y => (match c f.type x y, eqFs P c xs ys r with
      | some a, some b => some (a && b)
      | _, _ => none)
    | _, _ => none
def eqV (P : Program) : Nat → TypeId → Value → Value → Option Bool
  | 0, _, _, _ => none
  | d + 1, t, x, y =>
    match P.underlying t, x, y with
    | some .bool, .bool a, .bool b => some (a == b)
    | some (.int _), .int k a, .int k' b => if k = k' then some (a == b) else none
    | some .string, .string a, .string b => some (a.data.toList == b.data.toList)
    | some (.struct fs), .agg xs, .agg ys => bif P.stoodInHeld t then none else eqFs P (eqV P d) xs ys fs.toList
    | _, _, _ => none
theorem run_partV {P : Program} {t : TypeId} {cs : Array Value} {off : Nat} {v : Value} (h : partV P t cs off = some v) (u : World) : (part t cs off).run P u = .ok v u := by
  unfold partV at h
  split at h
  · rename_i h1 h2
    cases h
    have hz : Sz P t _ := h2
    simp only [part, Sem.run_bind, run_isAgg_agg ⟨h1, hz⟩, Result.andThen_ok, if_true, run_sizeOf hz, Sem.run_pure]
  · rename_i h1
    obtain ⟨d, hd, h2⟩ := Option.map_eq_some_iff.1 h1
    have : (isAgg t).run P u = .ok false u := by
      simp only [isAgg, Sem.run_bind, run_underlying hd, Result.andThen_ok]; cases d <;> first | rfl | exact (Bool.noConfusion h2)
    simp only [part, Sem.run_bind, this, Result.andThen_ok, Bool.false_eq_true, if_false, h, Sem.run_pure]
  · cases h
theorem beq_bytes (a b : ByteArray) : (a == b) = (a.data.toList == b.data.toList) := by
  cases a with | mk a => cases b with | mk b => cases a; cases b; exact List.beq_toArray ..
theorem run_eqV {P : Program} : ∀ (d : Nat) (t : TypeId) (x y : Value) (b : Bool), eqV P d t x y = some b → ∀ m u, (Op.equalIn (d + m) t x y).run P u = .ok b u
  | 0, _, _, _, _, h, _, _ => by cases h
  | d + 1, t, x, y, b, h, m, u => by
    rw [Nat.add_right_comm]
    unfold eqV at h
    split at h
    · rename_i hd; cases h; simp [Op.equalIn, run_underlying hd]
    · rename_i hd
      split at h
      · rename_i hk; cases h; simp [Op.equalIn, run_underlying hd, hk]
      · cases h
    · rename_i hd; cases h; simp [Op.equalIn, run_underlying hd, beq_bytes]
    · rename_i fs xs ys hd
      cases hs : P.stoodInHeld t
      case true => rw [hs] at h; cases h
      case false =>
      rw [hs, cond_false] at h
      unfold Op.equalIn
      simp only [Sem.run_bind, run_underlying hd, Result.andThen_ok, run_program, hs, Bool.false_eq_true, if_false]
      rw [← Array.forIn_toList]
      have key : ∀ (l : List Field) (b : Bool), eqFs P (eqV P d) xs ys l = some b → ∀ (g : Field → Option Bool × Unit → Sem (ForInStep (Option Bool × Unit))),
          (∀ f s, g f s = (if f.name ≠ "_" then do
              let x ← part f.type xs f.offset
              let y ← part f.type ys f.offset
              let r ← Op.equalIn (d + m) f.type x y
              if (!r) = true then pure (ForInStep.done (some false, ())) else pure (ForInStep.yield (none, ()))
            else pure (ForInStep.yield (none, ())) : Sem (ForInStep (Option Bool × Unit)))) → ∀ u,
          (forIn l ((none, ()) : Option Bool × Unit) g).run P u = .ok (if b then none else some false, ()) u := by
        intro l
        induction l with
        | nil => intro b hb g hg u; simp only [eqFs, Option.some.injEq] at hb; subst hb; rfl
        | cons f l ih =>
          intro b hb g hg u
          unfold eqFs at hb
          cases hn : f.name == "_"
          case true => rw [hn] at hb; cases hb
          case false =>
          rw [hn, cond_false] at hb
          split at hb
          case h_2 => cases hb
          case h_1 x y hx hy =>
          split at hb
          case h_2 => cases hb
          case h_1 b1 b2 h1 h2 =>
          cases hb
          have hn' : f.name ≠ "_" := by simpa using hn
          simp only [List.forIn_cons, Sem.run_bind, hg, hn', ne_eq, not_false_eq_true, if_true, run_partV hx, run_partV hy, run_eqV d _ _ _ _ h1 m, Result.andThen_ok]
          cases b1
          · rfl
          · simp only [Bool.not_true, Bool.false_eq_true, if_false, Sem.run_pure, Result.andThen_ok, Bool.true_and]
            exact ih b2 h2 g hg u
      rw [key fs.toList b h _ (fun f s => rfl) u]
      simp only [Result.andThen_ok]
      cases b <;> rfl
    · cases h
theorem run_equal {P : Program} {d : Nat} {t : TypeId} {x y : Value} {b : Bool} (h : eqV P d t x y = some b) (hd : d ≤ 10000) (u : World) : (Op.equal t x y).run P u = .ok b u := by
  have := run_eqV d t x y b h (10000 - d) u
  rwa [show d + (10000 - d) = Op.maxDepth from by unfold Op.maxDepth; omega] at this
theorem run_eqG {P : Program} {op : BinOp} {t : TypeId} {x y : Operand} {xs ys : Array Value} (h : P.eqGuardType P.depth t = false) (u : World) : (eqGuard op t x y (.agg xs) (.agg ys)).run P u = .ok () u := by
  unfold eqGuard
  cases op <;> simp [h]
theorem RL.ea {x y : Operand} {xt yt : TypeId} {xs ys : List Value} {b : Bool} (dd : Nat) (hdd : dd ≤ 10000) (hg : wanted n ops ρ ⟨some d, .binOp .eql xt x y yt, t, p, af, g⟩ = true) (hgt : P.eqGuardType P.depth xt = false) (hx : ev n ρ x = .agg xs.toArray) (hy : ev n ρ y = .agg ys.toArray)
    (he : eqV P dd xt (.agg xs.toArray) (.agg ys.toArray) = some b) (h : RL P n sq S ops N rest (upd ρ d (.bool b)) w) : RL P n sq S ops N (.cons ⟨some d, .binOp .eql xt x y yt, t, p, af, g⟩ f' rest) ρ w := by
  refine RL.yp (v := .bool b) rfl hg (fun u => ?_) h
  have h1 := (binOp_eql (P := P) (t := xt) (x := .agg xs.toArray) (y := .agg ys.toArray) b u (by simp) (run_equal he hdd u)).1
  simp only [execOp, hx, hy, Sem.run_bind, run_eqG hgt, Result.andThen_ok, h1, Sem.run_pure]
theorem RL.eN {x y : Operand} {xt yt : TypeId} {xs ys : List Value} {b : Bool} (dd : Nat) (hdd : dd ≤ 10000) (hg : wanted n ops ρ ⟨some d, .binOp .neq xt x y yt, t, p, af, g⟩ = true) (hgt : P.eqGuardType P.depth xt = false) (hx : ev n ρ x = .agg xs.toArray) (hy : ev n ρ y = .agg ys.toArray)
    (he : eqV P dd xt (.agg xs.toArray) (.agg ys.toArray) = some b) (h : RL P n sq S ops N rest (upd ρ d (.bool (!b))) w) : RL P n sq S ops N (.cons ⟨some d, .binOp .neq xt x y yt, t, p, af, g⟩ f' rest) ρ w := by
  refine RL.yp (v := .bool (!b)) rfl hg (fun u => ?_) h
  have h1 := (binOp_eql (P := P) (t := xt) (x := .agg xs.toArray) (y := .agg ys.toArray) b u (by simp) (run_equal he hdd u)).2
  simp only [execOp, hx, hy, Sem.run_bind, run_eqG hgt, Result.andThen_ok, h1, Sem.run_pure]
end
end Go.V
set_option linter.unusedSimpArgs false
set_option linter.unusedVariables false
namespace Go.V
open Go.RowKit
end Go.V
set_option linter.unusedSimpArgs false
set_option linter.unusedVariables false
namespace Go.V
open Go.RowKit
section
variable {P : Program} {b : Frame} {a : Act} {k : List Item} {cs : List Frame} {w : World}
theorem stepR_scope {c : Code} : step P (lone (b.atR a (.code (.scope c) :: k)) cs w) = .next (lone (b.atR a (.code c :: .inScope c :: k)) cs w) :=
  step_lone_go (by simp [stepG, stepG.exec, Frame.atR])
theorem stepR_inScope {c : Code} : step P (lone (b.atR a (.inScope c :: k)) cs w) = .next (lone (b.atR a k) cs w) :=
  step_lone_go (by simp [stepG, stepG.exec, Frame.atR])
end
def QJ (G : Nat → Act → World → Prop) (Q : Exit → Act → World → Prop) : Exit → Act → World → Prop
  | .goto l, a, w => G l a w
  | e, a, w => Q e a w
section
variable {P : Program} {n : Nat} {ro : Option Nat}
theorem wp_scope_ix {Q : Exit → Act → World → Prop} {a : Act} {w : World} {c : Code} (J : Nat → Nat → Act → World → Prop)
    (first : c.wpIn (fw ro) 0 P (QJ (fun l a w => ∃ m, J l m a w) Q) a w)
    (pass : ∀ l m a w, J l m a w → ∃ rest, findLabel c l = some rest ∧ rest.wpIn (fw ro) 0 P (QJ (fun l a' w' => ∃ m', m' < m ∧ J l m' a' w') Q) a w) : (Code.scope c).wpIn (fw ro) 0 P Q a w := by
  intro b k cs hro hb hr
  have fin : ∀ (G : Nat → Act → World → Prop) (m0 : Machine) (e : Exit) (a₁ : Act) (w₁ : World), QJ G Q e a₁ w₁ → ArrivesIn (Machine.fenced P (fw ro)) P m0 b (.inScope c :: k) cs e a₁ w₁ →
      (∀ l a w, G l a w → ∃ rest, findLabel c l = some rest ∧ ∃ e a' w', Q e a' w' ∧ ArrivesIn (Machine.fenced P (fw ro)) P (lone (b.atR a (.code rest :: .inScope c :: k)) cs w) b k cs e a' w') →
      ∃ e a' w', Q e a' w' ∧ ArrivesIn (Machine.fenced P (fw ro)) P m0 b k cs e a' w' := by
    intro G m0 e a₁ w₁ hq harr hG
    cases e with
    | normal => exact ⟨.normal, a₁, w₁, hq, StepsIn.trans harr (.one (fenced_calm hb hr rfl) stepR_inScope)⟩
    | exit id => exact ⟨.exit id, a₁, w₁, hq, fun k' hk => harr.1 k' hk, fun hr' hk => harr.2 hr' hk⟩
    | goto l =>
      obtain ⟨rest, hf, e₂, a₂, w₂, hq₂, harr₂⟩ := hG l a₁ w₁ hq
      have hg : gotoIn l (.inScope c :: k) = some (.code rest :: .inScope c :: k) := by simp [gotoIn, hf]
      exact ⟨e₂, a₂, w₂, hq₂, .of_steps (harr.1 _ hg) harr₂⟩
    | ret => exact ⟨_, a₁, w₁, hq, harr⟩
    | panic ch => exact ⟨_, a₁, w₁, hq, harr⟩
    | outgrown => exact ⟨_, a₁, w₁, hq, harr⟩
  have key : ∀ m l a w, J l m a w → ∃ rest, findLabel c l = some rest ∧ ∃ e a' w', Q e a' w' ∧ ArrivesIn (Machine.fenced P (fw ro)) P (lone (b.atR a (.code rest :: .inScope c :: k)) cs w) b k cs e a' w' := by
    intro m
    induction m using Nat.strongRecOn with
    | _ m ih =>
      intro l a w hJ
      obtain ⟨rest, hf, hp⟩ := pass l m a w hJ
      obtain ⟨e, a₁, w₁, hq, harr⟩ := hp b (.inScope c :: k) cs hro hb hr
      exact ⟨rest, hf, fin _ _ e a₁ w₁ hq harr fun l a w ⟨m', hm, h⟩ => ih m' hm l a w h⟩
  obtain ⟨e, a₁, w₁, hq, harr⟩ := first b (.inScope c :: k) cs hro hb hr
  obtain ⟨e₂, a₂, w₂, hq₂, harr₂⟩ := fin _ _ e a₁ w₁ hq harr fun l a w ⟨m, h⟩ => key m l a w h
  exact ⟨e₂, a₂, w₂, hq₂, .of_steps (.one (fenced_calm hb hr rfl) stepR_scope) harr₂⟩
def XL (l : Nat) (G : Post) (X : Nat → Post) : Nat → Post := fun j ρ w => bif Nat.beq j (2 * l + 1) then G ρ w else X j ρ w
def XNG (X : Nat → Post) : Nat → Post := fun j ρ w => bif Nat.beq (j % 2) 1 then False else X j ρ w
variable {N : Post} {X : Nat → Post} {R : Post} {ρ : Env} {w : World}
theorem XNG_exit {j : Nat} (h : XNG X (2 * j) ρ w) : X (2 * j) ρ w := by
  unfold XNG at h
  rw [beq_ne (by omega)] at h
  exact h
theorem XL_exit {l j : Nat} {G : Post} (h : XL l G X (2 * j) ρ w) : X (2 * j) ρ w := by
  unfold XL at h
  rw [beq_ne (by omega)] at h
  exact h
theorem XL_goto {l j : Nat} {G : Post} (h : XL l G X (2 * j + 1) ρ w) : (j = l ∧ G ρ w) ∨ X (2 * j + 1) ρ w := by
  unfold XL at h
  by_cases hj : j = l
  · subst hj
    have : Nat.beq (2 * j + 1) (2 * j + 1) = true := by simp
    rw [this] at h
    exact .inl ⟨rfl, h⟩
  · rw [beq_ne (by omega)] at h
    exact .inr h
theorem XNG_goto {j : Nat} (h : XNG X (2 * j + 1) ρ w) : False := by
  unfold XNG at h
  have : Nat.beq ((2 * j + 1) % 2) 1 = true := by
    have : (2 * j + 1) % 2 = 1 := by omega
    rw [this]; rfl
  rw [this] at h
  exact h
theorem W.sc2 {c r0 r1 : Code} {l0 l1 : Nat} (J0 J1 : Nat → Post) (h0 : findLabel c l0 = some r0) (h1 : findLabel c l1 = some r1)
    (hf : W P n ro c N (XL l0 (fun ρ w => ∃ m, J0 m ρ w) (XL l1 (fun ρ w => ∃ m, J1 m ρ w) (XNG X))) R ρ w)
    (p0 : ∀ m ρ w, J0 m ρ w → W P n ro r0 N (XL l0 (fun ρ w => ∃ m', m' < m ∧ J0 m' ρ w) (XL l1 (fun ρ w => ∃ m', m' < m ∧ J1 m' ρ w) (XNG X))) R ρ w)
    (p1 : ∀ m ρ w, J1 m ρ w → W P n ro r1 N (XL l0 (fun ρ w => ∃ m', m' < m ∧ J0 m' ρ w) (XL l1 (fun ρ w => ∃ m', m' < m ∧ J1 m' ρ w) (XNG X))) R ρ w) : W P n ro (.scope c) N X R ρ w := by
  have mv : ∀ (m : Nat) (e : Exit) (a : Act) (w : World), QQ n N (XL l0 (fun ρ w => ∃ m', m' < m ∧ J0 m' ρ w) (XL l1 (fun ρ w => ∃ m', m' < m ∧ J1 m' ρ w) (XNG X))) R e a w →
      QJ (fun l a' w' => ∃ m', m' < m ∧ ∃ ρ, a' = act n ρ ∧ ((l = l0 ∧ J0 m' ρ w') ∨ (l = l1 ∧ J1 m' ρ w'))) (QQ n N X R) e a w := by
    intro m e a w h
    cases e with
    | exit j => obtain ⟨ρ, rfl, h⟩ := h; exact ⟨ρ, rfl, XNG_exit (XL_exit (XL_exit h))⟩
    | goto l =>
      obtain ⟨ρ, rfl, h⟩ := h
      rcases XL_goto h with ⟨rfl, m', hm, h⟩ | h
      · exact ⟨m', hm, ρ, rfl, .inl ⟨rfl, h⟩⟩
      · rcases XL_goto h with ⟨rfl, m', hm, h⟩ | h
        · exact ⟨m', hm, ρ, rfl, .inr ⟨rfl, h⟩⟩
        · exact (XNG_goto h).elim
    | _ => exact h
  refine wp_scope_ix (fun l m a w => ∃ ρ, a = act n ρ ∧ ((l = l0 ∧ J0 m ρ w) ∨ (l = l1 ∧ J1 m ρ w))) (wpIn_mono hf ?_) ?_
  · intro e a w h
    cases e with
    | exit j => obtain ⟨ρ, rfl, h⟩ := h; exact ⟨ρ, rfl, XNG_exit (XL_exit (XL_exit h))⟩
    | goto l =>
      obtain ⟨ρ, rfl, h⟩ := h
      rcases XL_goto h with ⟨rfl, m, h⟩ | h
      · exact ⟨m, ρ, rfl, .inl ⟨rfl, h⟩⟩
      · rcases XL_goto h with ⟨rfl, m, h⟩ | h
        · exact ⟨m, ρ, rfl, .inr ⟨rfl, h⟩⟩
        · exact (XNG_goto h).elim
    | _ => exact h
  · rintro l m a w ⟨ρ, rfl, ⟨rfl, hJ⟩ | ⟨rfl, hJ⟩⟩
    · exact ⟨r0, h0, wpIn_mono (p0 m ρ w hJ) (mv m)⟩
    · exact ⟨r1, h1, wpIn_mono (p1 m ρ w hJ) (mv m)⟩
end
section
variable {P : Program} {n : Nat} {sq : Bool} {S : Nat → Prop} {ops : Array Oper} {rest : OT} {f' : Bool} {N : Post} {ρ : Env} {w : World} {g : Option (Nat × Bool)} {t : TypeId} {p : String} {af : Array Edge}
theorem RL.cxs {f : FuncId} {dd : Option Nat} {as_ : Array Operand} {ts : Array TypeId} {va : List Value} (hg : wanted n ops ρ ⟨dd, .call ⟨.value (.func f), as_, ts⟩, t, p, af, g⟩ = true) (hf : IsFn P f) (ha : as_.toList.map (ev n ρ) = va)
    (h : Cl P f va w fun v w'' => Exs S w w'' ∧ RL P n sq S ops N rest (put ρ dd v) w'') : RL P n sq S ops N (.cons ⟨dd, .call ⟨.value (.func f), as_, ts⟩, t, p, af, g⟩ f' rest) ρ w := by
  refine RL.cl rfl hg (g := f) (args := va) ?_ h (fun _ _ h _ => h.1) (fun _ _ h => h.2)
  have h1 : as_.map (ev n ρ) = va.toArray := Array.ext' (by simpa using ha)
  simp [execOp, resolve, Deferred.ofValue, invoke, ev, h1, run_callFunc hf]
end
end Go.V
namespace Go.V
open Go.RowKit
section
variable {P : Program} {n : Nat}
def rvRun (T : Array Value) : ResultVar → Sem Value
  | .tmp t => pure (T.getD t undef)
  | .cell a t => do loadVar t (← asAddr (T.getD a undef))
theorem rv_tmp {ρ : Env} {t : Tmp} {v : Value} (hv : ev n ρ (.tmp t) = v) (w : World) : (rvRun (act n ρ).tmps (.tmp t)).run P w = .ok v w := by
  simp only [rvRun, Sem.run_pure, getD_act, hv]
theorem rv_agg {ρ : Env} {t : Tmp} {ty : TypeId} {a : Addr} {l : List Value} {w : World} (ht : Agg P ty l.length) (hv : ev n ρ (.tmp t) = .pointer (some a)) (hc : cellsAt w a 0 l) : (rvRun (act n ρ).tmps (.cell t ty)).run P w = .ok (.agg l.toArray) w := by
  simp only [rvRun, getD_act, hv, asAddr, Sem.run_bind, Sem.run_pure, Result.andThen_ok, run_loadAgg ht hc]
def RV (P : Program) (T : Array Value) (w : World) : List ResultVar → List Value → Prop
  | [], [] => True
  | r :: rs, v :: vs => (rvRun T r).run P w = .ok v w ∧ RV P T w rs vs
  | _, _ => False
theorem RV.run {T : Array Value} {w : World} : ∀ {rs : List ResultVar} {vs : List Value}, RV P T w rs vs → (rs.mapM (rvRun T)).run P w = .ok vs w
  | [], [], _ => rfl
  | r :: rs, v :: vs, h => by
    simp only [List.mapM_cons, Sem.run_bind, Sem.run_pure, h.1, RV.run h.2, Result.andThen_ok]
  | [], _ :: _, h => h.elim
  | _ :: _, [], h => h.elim
theorem RV.len {T : Array Value} {w : World} : ∀ {rs : List ResultVar} {vs : List Value}, RV P T w rs vs → rs.length = vs.length
  | [], [], _ => rfl
  | _ :: _, _ :: _, h => congrArg (· + 1) (RV.len h.2)
  | [], _ :: _, h => h.elim
  | _ :: _, [], h => h.elim
theorem results_eq (fn : Func) (T : Array Value) : results fn T = (do let vs ← fn.results.mapM (rvRun T); pure (if h : vs.size = 1 then vs[0] else .tuple vs)) := by
  unfold results
  congr 1
theorem Res.cs {fn : Func} {k : Value → World → Prop} {ρ : Env} {w : World} {rs : List ResultVar} {vs : List Value} (h : fn.results = rs.toArray) (h0 : rs.length ≠ 1)
    (hk : Lv P (fun w => RV P (act n ρ).tmps w rs vs ∧ k (.tuple vs.toArray) w) ρ.ds w) : Res P fn n k ρ w := by
  refine Lv.mono (fun w hk => ⟨.tuple vs.toArray, ?_, hk.2⟩) hk
  have h1 : vs.length ≠ 1 := hk.1.len ▸ h0
  rw [results_eq]
  simp only [h, List.mapM_toArray, Sem.run_bind, Sem.run_map]
  rw [hk.1.run]
  simp only [Result.andThen_ok, List.size_toArray, h1, dite_false, Sem.run_pure]
theorem Res.c1 {fn : Func} {k : Value → World → Prop} {ρ : Env} {w : World} {r : ResultVar} {v : Value} (h : fn.results = #[r])
    (hk : Lv P (fun w => (rvRun (act n ρ).tmps r).run P w = .ok v w ∧ k v w) ρ.ds w) : Res P fn n k ρ w := by
  refine Lv.mono (fun w hk => ⟨v, ?_, hk.2⟩) hk
  rw [results_eq, h]
  have : (#[r] : Array ResultVar) = [r].toArray := rfl
  have hr : RV P (act n ρ).tmps w [r] [v] := ⟨hk.1, trivial⟩
  rw [this]
  simp only [List.mapM_toArray, Sem.run_bind, Sem.run_map]
  rw [hr.run]
  simp [Sem.run_pure]
def LpAt (w : World) (l : Nat) (L : Loop) (st : LoopState) (pd : Option Code) : Prop := w.heap[l]? = some (.loop { L with state := st, pending := pd })
def ER (w : World) (l : Nat) (L : Loop) (pd : Option Code) (k : Value → World → Prop) : Prop :=
  ∃ st0 pd0, LpAt w l L st0 pd0 ∧ ∀ w', w' = w.putObj l (.loop { L with state := if pd.isNone then .ready else .done, pending := pd }) → k (.bool pd.isNone) w'
def mk (r : Nat) : Deferred := { target := .collected r, args := #[] }
end
section
variable {P : Program} {n : Nat} {sq : Bool} {S : Nat → Prop} {ops : Array Oper} {rest : OT} {f' : Bool} {N : Post} {ρ : Env} {w : World} {g : Option (Nat × Bool)}
variable {t : TypeId} {p : String} {af : Array Edge} {d : Nat}
theorem RL.us {x y : Operand} {ts : Array TypeId} {vx vy : Value} (hfl : f' = false) (hg : wanted n ops ρ ⟨some d, .call ⟨.builtin .unsafeString, #[x, y], ts⟩, t, p, af, g⟩ = true) (hx : ev n ρ x = vx) (hy : ev n ρ y = vy)
    (h : ∃ (l : Str) (w1 : World), (Builtin.unsafeString_ ts t #[vx, vy]).run P w = .ok (.string (mkS l)) w1 ∧ RL P n sq S ops N rest (upd ρ d (.string (mkS l))) w1) :
    RL P n sq S ops N (.cons ⟨some d, .call ⟨.builtin .unsafeString, #[x, y], ts⟩, t, p, af, g⟩ f' rest) ρ w := by
  obtain ⟨l, w1, hr, h⟩ := h
  refine RL.ef (v := .string (mkS l)) (w' := w1) rfl hg ?_ (fun e => by rw [hfl] at e; cases e) h
  simp [execOp, resolve, invoke, builtin, hx, hy, hr]
theorem RL.m3 {x y z : Operand} {ts : Array TypeId} {k : IntKind} {a b c : Int} (hg : wanted n ops ρ ⟨some d, .call ⟨.builtin .max, #[x, y, z], ts⟩, t, p, af, g⟩ = true) (hx : ev n ρ x = .int k a) (hy : ev n ρ y = .int k b) (hz : ev n ρ z = .int k c)
    (h : RL P n sq S ops N rest (upd ρ d (.int k (max (max a b) c))) w) : RL P n sq S ops N (.cons ⟨some d, .call ⟨.builtin .max, #[x, y, z], ts⟩, t, p, af, g⟩ f' rest) ρ w := by
  refine RL.yp (v := .int k (max (max a b) c)) rfl hg (fun u => ?_) h
  have e1 : (if a < b then b else a) = max a b := by split <;> omega
  have e2 : (if max a b < c then c else max a b) = max (max a b) c := by split <;> omega
  simp [execOp, resolve, invoke, builtin, Builtin.max_, Builtin.max2, hx, hy, hz]
  rw [e1, e2]; omega
theorem RL.apf {x y : Operand} {ts : Array TypeId} {vx vy : Value} (hg : wanted n ops ρ ⟨some d, .call ⟨.builtin .append, #[x, y], ts⟩, t, p, af, g⟩ = true) (hx : ev n ρ x = vx) (hy : ev n ρ y = vy)
    (h : ∃ (s : Sl) (w1 : World), (Builtin.append_ ts t #[vx, vy]).run P w = .ok (.slice s.base s.len s.cap) w1 ∧ Exs S w w1 ∧ RL P n sq S ops N rest (upd ρ d (.slice s.base s.len s.cap)) w1) :
    RL P n sq S ops N (.cons ⟨some d, .call ⟨.builtin .append, #[x, y], ts⟩, t, p, af, g⟩ f' rest) ρ w := by
  obtain ⟨s, w1, hr, hs, h⟩ := h
  refine RL.ef (v := .slice s.base s.len s.cap) (w' := w1) rfl hg ?_ (fun _ => hs) h
  simp [execOp, resolve, invoke, builtin, hx, hy, hr]
end
end Go.V
set_option linter.unusedSimpArgs false
set_option linter.unusedVariables false
namespace Go.V
abbrev iF (b : Bool) (P Q : Prop) : Prop := (b = true → P) ∧ (b = false → Q)
abbrev tA (l : List Value) : Array Value := List.toArray l
abbrev sl (s : Sl) : Value := .slice s.base s.len s.cap
abbrev tx (s : Str) : Value := .string (mkS s)
abbrev nI (x : Int) : Value := .int .i64 x
abbrev nA (b : Nat) : Value := .pointer (some ⟨b, 0, none⟩)
abbrev mC (a b c d e : Int) (s : Sl) : List Value := [.int .u8 a, .int .u8 b, .int .u8 c, .int .u8 d, .int .u8 e, .slice s.base s.len s.cap]
abbrev dC (a b c d e : Int) : List Value := [.int .u8 a, .int .u8 b, .int .u8 c, .int .u8 d, .int .u8 e]
abbrev pC (a : Str) (b c d e f : Int) : List Value := [.string (mkS a), .int .i64 b, .int .i64 c, .int .i64 d, .int .i64 e, .int .i64 f]
namespace K
def env (ρ0 : Nat → Value) (ds : List Deferred) : List (Nat × Value) → Env
  | [] => ⟨ρ0, ds⟩
  | p :: l => upd (env ρ0 ds l) p.1 p.2
def gets (ρ : Env) : List (Nat × Value) → List Value
  | [] => []
  | p :: l => ρ.f p.1 :: gets ρ l
def vals : List (Nat × Value) → List Value
  | [] => []
  | p :: l => p.2 :: vals l
abbrev agr (ρ : Env) (ds : List Deferred) (l : List (Nat × Value)) : Prop := (ρ.ds, gets ρ l) = (ds, vals l)
theorem agr_eq {ρ : Env} {ds : List Deferred} : ∀ {l : List (Nat × Value)}, agr ρ ds l → ρ = env ρ.f ds l
  | [], h => by obtain ⟨f, d⟩ := ρ; cases (Prod.mk.inj h).1; rfl
  | p :: l, h => by
    obtain ⟨h1, h2⟩ := Prod.mk.inj h
    obtain ⟨h3, h4⟩ := List.cons.inj h2
    exact uc (agr_eq (l := l) (by rw [agr, h1, h4])) h3
def gS (n : Nat) (ops : Array Oper) (ρ : Env) (j : Nat) : Option Bool :=
  match (ops[j]?).bind (·.dst) with
  | some e => (match ev n ρ (.tmp e) with | .bool b => some b | _ => none)
  | none => none
theorem gS_e {n : Nat} {ops : Array Oper} {ρ : Env} {j : Nat} {b : Bool} (h : gS n ops ρ j = some b) : ∃ e, (ops[j]?).bind (·.dst) = some e ∧ ev n ρ (.tmp e) = .bool b := by
  unfold gS at h
  split at h
  · rename_i e he
    refine ⟨e, he, ?_⟩
    split at h
    · rename_i b' hb; cases h; exact hb
    · cases h
  · cases h
section
variable {P : Program} {n : Nat} {sQ : Bool} {S : Nat → Prop} {ro : Option Nat} {ops : Array Oper} {rest : OT} {f' : Bool} {N : Post} {ρ : Env} {w : World} {X : Nat → Post} {R : Post}
variable {t : TypeId} {p : String} {af : Array Edge} {d : Nat}
theorem dn (h : N ρ w) : RL P n sQ S ops N .nil ρ w := RL.dn h
theorem sk (h : N ρ w) : W P n ro .skip N X R ρ w := W.sk h
theorem rt (h : R ρ w) : W P n ro .ret N X R ρ w := W.rt h
theorem ex {j : Nat} (h : X (2 * j) ρ w) : W P n ro (.exit j) N X R ρ w := W.ex h
theorem sq {x y : Code} (h : W P n ro x (W P n ro y N X R) X R ρ w) : W P n ro (.seq x y) N X R ρ w := W.sq h
theorem bl {id : Nat} {c : Code} (h : W P n ro c N (XB id N X) R ρ w) : W P n ro (.block id c) N X R ρ w := W.bl h
theorem rg {id : Nat} {l : List Oper} (h : RL P n true N0 l.toArray N (OT.ofList l) ρ w) : W P n ro (.region id l.toArray false) N X R ρ w := W.rg h
theorem sr {id : Nat} {l : List Oper} {y : Code} (h : RL P n true N0 l.toArray (W P n ro y N X R) (OT.ofList l) ρ w) : W P n ro (.seq (.region id l.toArray false) y) N X R ρ w := W.sq (W.rg h)
theorem cD {c : Operand} {x y : Code} {b : Bool} {A B : Prop} (h : iF b A B) (hc : ev n ρ c = .bool b) (h1 : A → W P n ro x N X R ρ w) (h2 : B → W P n ro y N X R ρ w) : W P n ro (.cond c x y) N X R ρ w :=
  W.cd hc ⟨fun e => h1 (h.1 e), fun e => h2 (h.2 e)⟩
theorem gT {dd : Option Nat} {op : Op} {j : Nat} {b b0 : Bool} {e : Nat} {A : Prop} (h : b = true ∧ A) (hv : ((ops[j]?).bind (·.dst), ev n ρ (.tmp e)) = (some e, .bool b))
    (h1 : A → RL P n sQ S ops N (.cons ⟨dd, op, t, p, af, some (j, b0)⟩ f' rest) (upd ρ e (.bool true)) w) : RL P n sQ S ops N (.cons ⟨dd, op, t, p, af, some (j, b0)⟩ f' rest) ρ w :=
  RL.gd (Prod.mk.inj hv).2 (fun _ => h1 h.2) (fun e => by rw [h.1] at e; cases e)
theorem cf {c : Operand} {x y : Code} (hc : ev n ρ c = .bool false) (h : W P n ro y N X R ρ w) : W P n ro (.cond c x y) N X R ρ w := W.cf hc h
theorem dS {id : Nat} (s : List Nat) {A : World → Prop} (h : ∀ w1, w1 = w.drew → A w1) (hk : ∀ w1, A w1 → RL P n false N0 ops N ((ST.line s).ot ops) ρ w1) (hm : P.follows .mixedOrders = true := by kernel_rfl) (hd : (ops.all fun o => match o.op with | .defer _ => false | _ => true) = true := by decide +kernel) (hc : (Region.noSelect ops && (ST.line s).even && ((ST.line s).size == ops.size) && ordered .any ops && chkF P ops (ST.line s) none (Array.replicate ops.size false) []) = true := by decide +kernel) : W P n ro (.region id ops true) N X R ρ w :=
  W.ds N0 (ST.line s) hm hd hc fun w1 e => hk w1 (h w1 e)
def st : List Nat → List Nat → ST
  | [], _ => .nil
  | i :: l, fl => .cons i (fl.elem i) (st l fl)
theorem dF {id : Nat} (s fl : List Nat) {A : World → Prop} (h : ∀ w1, w1 = w.drew → A w1) (hk : ∀ w1, A w1 → RL P n false N0 ops N ((st s fl).ot ops) ρ w1) (hm : P.follows .mixedOrders = true := by kernel_rfl) (hd : (ops.all fun o => match o.op with | .defer _ => false | _ => true) = true := by decide +kernel) (hc : (Region.noSelect ops && (st s fl).even && ((st s fl).size == ops.size) && ordered .any ops && chkF P ops (st s fl) none (Array.replicate ops.size false) []) = true := by decide +kernel) : W P n ro (.region id ops true) N X R ρ w :=
  W.ds N0 (st s fl) hm hd hc fun w1 e => hk w1 (h w1 e)
theorem gN {dd : Option Nat} {op : Op} {j : Nat} {b : Bool} (hv : gS n ops ρ j = some (!b)) (h : RL P n sQ S ops N rest (put ρ dd undef) w) : RL P n sQ S ops N (.cons ⟨dd, op, t, p, af, some (j, b)⟩ f' rest) ρ w := by
  obtain ⟨e, h1, h2⟩ := gS_e hv
  exact RL.gn (wanted_n rfl h1 h2 (by cases b <;> rfl)) h
theorem gY {dd : Option Nat} {op : Op} {j : Nat} {b : Bool} (hv : gS n ops ρ j = some b) (h : RL P n sQ S ops N (.cons ⟨dd, op, t, p, af, none⟩ f' rest) ρ w) : RL P n sQ S ops N (.cons ⟨dd, op, t, p, af, some (j, b)⟩ f' rest) ρ w := by
  obtain ⟨e, h1, h2⟩ := gS_e hv
  have hw : wanted n ops ρ ⟨dd, op, t, p, af, some (j, b)⟩ = true := wanted_y rfl h1 h2
  cases h with
  | yp hc hg hr h => exact RL.yp hc hw hr h
  | yl hc hg hr h => exact RL.yl hc hw hr h
  | ef hc hg hr hf h => exact RL.ef hc hw hr hf h
  | es hc hg hr hf h => exact RL.es hc hw hr hf h
  | cl hc hg hr hC hf h => exact RL.cl hc hw hr hC hf h
  | rd hs hg hd hr hC h => exact RL.rd hs hw hd hr hC h
  | gn hg h => exact Bool.noConfusion (show true = false from hg)
theorem gD {dd : Option Nat} {op : Op} {j : Nat} {b b0 : Bool} {e : Nat} {A B : Prop} (h : iF b A B) (hv : ((ops[j]?).bind (·.dst), ev n ρ (.tmp e)) = (some e, .bool b))
    (h1 : A → RL P n sQ S ops N (.cons ⟨dd, op, t, p, af, some (j, b0)⟩ f' rest) (upd ρ e (.bool true)) w) (h2 : B → RL P n sQ S ops N (.cons ⟨dd, op, t, p, af, some (j, b0)⟩ f' rest) (upd ρ e (.bool false)) w) : RL P n sQ S ops N (.cons ⟨dd, op, t, p, af, some (j, b0)⟩ f' rest) ρ w :=
  RL.gd (Prod.mk.inj hv).2 (fun e => h1 (h.1 e)) (fun e => h2 (h.2 e))
theorem mU {x : Operand} {v : Array Value} (hx : ev n ρ x = .tuple v) (h : RL P n sQ S ops N rest (upd ρ d (.tuple v)) w) : RL P n sQ S ops N (.cons ⟨some d, .move x, t, p, af, none⟩ f' rest) ρ w := RL.mv rfl _ hx h
theorem mI {x : Operand} {k : IntKind} {v : Int} (hx : ev n ρ x = .int k v) (h : RL P n sQ S ops N rest (upd ρ d (.int k v)) w) : RL P n sQ S ops N (.cons ⟨some d, .move x, t, p, af, none⟩ f' rest) ρ w := RL.mv rfl _ hx h
theorem aI {x : Operand} {k : IntKind} {v : Int} (hx : ev n ρ x = .int k v) (h : RL P n sQ S ops N rest (upd ρ d (.int k v)) w) : RL P n sQ S ops N (.cons ⟨some d, .assign x, t, p, af, none⟩ f' rest) ρ w := RL.as rfl _ hx h
theorem mT {x : Operand} {v : Str} (hx : ev n ρ x = .string (mkS v)) (h : RL P n sQ S ops N rest (upd ρ d (.string (mkS v))) w) : RL P n sQ S ops N (.cons ⟨some d, .move x, t, p, af, none⟩ f' rest) ρ w := RL.mv rfl _ hx h
theorem aT {x : Operand} {v : Str} (hx : ev n ρ x = .string (mkS v)) (h : RL P n sQ S ops N rest (upd ρ d (.string (mkS v))) w) : RL P n sQ S ops N (.cons ⟨some d, .assign x, t, p, af, none⟩ f' rest) ρ w := RL.as rfl _ hx h
theorem mS {x : Operand} {a : Option Addr} {l c : Nat} (hx : ev n ρ x = .slice a l c) (h : RL P n sQ S ops N rest (upd ρ d (.slice a l c)) w) : RL P n sQ S ops N (.cons ⟨some d, .move x, t, p, af, none⟩ f' rest) ρ w := RL.mv rfl _ hx h
theorem aS {x : Operand} {a : Option Addr} {l c : Nat} (hx : ev n ρ x = .slice a l c) (h : RL P n sQ S ops N rest (upd ρ d (.slice a l c)) w) : RL P n sQ S ops N (.cons ⟨some d, .assign x, t, p, af, none⟩ f' rest) ρ w := RL.as rfl _ hx h
theorem mB {x : Operand} {v : Bool} (hx : ev n ρ x = .bool v) (h : RL P n sQ S ops N rest (upd ρ d (.bool v)) w) : RL P n sQ S ops N (.cons ⟨some d, .move x, t, p, af, none⟩ f' rest) ρ w := RL.mv rfl _ hx h
theorem aB {x : Operand} {v : Bool} (hx : ev n ρ x = .bool v) (h : RL P n sQ S ops N rest (upd ρ d (.bool v)) w) : RL P n sQ S ops N (.cons ⟨some d, .assign x, t, p, af, none⟩ f' rest) ρ w := RL.as rfl _ hx h
theorem mP {x : Operand} {v : Option Addr} (hx : ev n ρ x = .pointer v) (h : RL P n sQ S ops N rest (upd ρ d (.pointer v)) w) : RL P n sQ S ops N (.cons ⟨some d, .move x, t, p, af, none⟩ f' rest) ρ w := RL.mv rfl _ hx h
theorem aP {x : Operand} {v : Option Addr} (hx : ev n ρ x = .pointer v) (h : RL P n sQ S ops N rest (upd ρ d (.pointer v)) w) : RL P n sQ S ops N (.cons ⟨some d, .assign x, t, p, af, none⟩ f' rest) ρ w := RL.as rfl _ hx h
theorem mV {x : Operand} (v : Value) (hx : ev n ρ x = v) (h : RL P n sQ S ops N rest (upd ρ d v) w) : RL P n sQ S ops N (.cons ⟨some d, .move x, t, p, af, none⟩ f' rest) ρ w := RL.mv rfl _ hx h
theorem aV {x : Operand} (v : Value) (hx : ev n ρ x = v) (h : RL P n sQ S ops N rest (upd ρ d v) w) : RL P n sQ S ops N (.cons ⟨some d, .assign x, t, p, af, none⟩ f' rest) ρ w := RL.as rfl _ hx h
theorem pT {c x y : Operand} {v : Bool} (hv : (ev n ρ c, ev n ρ x) = (.bool true, .bool v)) (h : RL P n sQ S ops N rest (upd ρ d (.bool v)) w) : RL P n sQ S ops N (.cons ⟨some d, .pick c x y, t, p, af, none⟩ f' rest) ρ w := RL.pt rfl _ (Prod.mk.inj hv).1 (Prod.mk.inj hv).2 h
theorem pF {c x y : Operand} {v : Bool} (hv : (ev n ρ c, ev n ρ y) = (.bool false, .bool v)) (h : RL P n sQ S ops N rest (upd ρ d (.bool v)) w) : RL P n sQ S ops N (.cons ⟨some d, .pick c x y, t, p, af, none⟩ f' rest) ρ w := RL.pf rfl _ (Prod.mk.inj hv).1 (Prod.mk.inj hv).2 h
theorem nC {x : Operand} {a : Addr} (hx : ev n ρ x = .pointer (some a)) (h : RL P n sQ S ops N rest (upd ρ d (.pointer (some a))) w) : RL P n sQ S ops N (.cons ⟨some d, .nilCheck x, t, p, af, none⟩ f' rest) ρ w := RL.nc rfl hx h
theorem nP {x : Operand} {v : Option Addr} {Q : Addr → Prop} (h : ∃ a, v = some a ∧ Q a) (hx : ev n ρ x = .pointer v) (hk : ∀ a, Q a → RL P n sQ S ops N rest (upd ρ d (.pointer (some a))) w) : RL P n sQ S ops N (.cons ⟨some d, .nilCheck x, t, p, af, none⟩ f' rest) ρ w := by
  obtain ⟨a, rfl, h⟩ := h
  exact RL.nc rfl hx (hk a h)
theorem fA {s : TypeId} {x : Operand} {f : Nat} {a : Addr} {off : Nat} {ft : TypeId} {z : Nat} (hf : Fld P s f off ft z) (hx : ev n ρ x = .pointer (some a)) (h : RL P n sQ S ops N rest (upd ρ d (.pointer (some (a.add off)))) w) : RL P n sQ S ops N (.cons ⟨some d, .fieldAddr s x f, t, p, af, none⟩ f' rest) ρ w := RL.fa rfl hf hx h
theorem iE {x y : Operand} {xt e : TypeId} {s : Sl} {sz : Nat} {k : IntKind} {i : Int} {Q : Addr → Prop} (hd : P.underlying xt = some (.slice e)) (hz : Sz P e sz) (h : ∃ a, s.base = some a ∧ (0 ≤ i ∧ i < s.len) ∧ Q a) (hv : (ev n ρ x, ev n ρ y) = (.slice s.base s.len s.cap, .int k i))
    (hk : ∀ a, Q a → RL P n sQ S ops N rest (upd ρ d (.pointer (some (a.add (i.toNat * sz))))) w) : RL P n sQ S ops N (.cons ⟨some d, .indexAddr xt x y, t, p, af, none⟩ f' rest) ρ w :=
  RL.ia rfl hd hz (Prod.mk.inj hv).1 (Prod.mk.inj hv).2 (let ⟨a, h1, h2, h3⟩ := h; ⟨a, h1, h2, hk a h3⟩)
theorem iR {x y : Operand} {xt e : TypeId} {a : Addr} {m sz : Nat} {k : IntKind} {i : Int} {Q : Prop} (hd : P.underlying xt = some (.array m e)) (hz : Sz P e sz) (h : (0 ≤ i ∧ i < m) ∧ Q) (hv : (ev n ρ x, ev n ρ y) = (.pointer (some a), .int k i))
    (hk : Q → RL P n sQ S ops N rest (upd ρ d (.pointer (some (a.add (i.toNat * sz))))) w) : RL P n sQ S ops N (.cons ⟨some d, .indexAddr xt x y, t, p, af, none⟩ f' rest) ρ w := RL.iA rfl hd hz (Prod.mk.inj hv).1 (Prod.mk.inj hv).2 ⟨h.1, hk h.2⟩
theorem lI {x : Operand} {a : Addr} {ty : TypeId} {k : IntKind} {Q : Int → Prop} (ht : One P ty) (h : ∃ s : Int, w.cell? a = some (.int k s) ∧ Q s) (hx : ev n ρ x = .pointer (some a)) (hk : ∀ s : Int, Q s → RL P n sQ N0 ops N rest (upd ρ d (.int k s)) w) : RL P n sQ N0 ops N (.cons ⟨some d, .load ty x, t, p, af, none⟩ f' rest) ρ w :=
  let ⟨s, hc, h⟩ := h; RL.ld rfl _ ht hx hc (hk s h)
theorem lT {x : Operand} {a : Addr} {ty : TypeId} {Q : Str → Prop} (ht : One P ty) (h : ∃ s : Str, w.cell? a = some (.string (mkS s)) ∧ Q s) (hx : ev n ρ x = .pointer (some a)) (hk : ∀ s : Str, Q s → RL P n sQ N0 ops N rest (upd ρ d (.string (mkS s))) w) : RL P n sQ N0 ops N (.cons ⟨some d, .load ty x, t, p, af, none⟩ f' rest) ρ w :=
  let ⟨s, hc, h⟩ := h; RL.ld rfl _ ht hx hc (hk s h)
theorem lS {x : Operand} {a : Addr} {ty : TypeId} {Q : Sl → Prop} (ht : One P ty) (h : ∃ s : Sl, w.cell? a = some (.slice s.base s.len s.cap) ∧ Q s) (hx : ev n ρ x = .pointer (some a)) (hk : ∀ s : Sl, Q s → RL P n sQ N0 ops N rest (upd ρ d (.slice s.base s.len s.cap)) w) : RL P n sQ N0 ops N (.cons ⟨some d, .load ty x, t, p, af, none⟩ f' rest) ρ w :=
  let ⟨s, hc, h⟩ := h; RL.ld rfl _ ht hx hc (hk s h)
theorem lB {x : Operand} {a : Addr} {ty : TypeId} {Q : Bool → Prop} (ht : One P ty) (h : ∃ s : Bool, w.cell? a = some (.bool s) ∧ Q s) (hx : ev n ρ x = .pointer (some a)) (hk : ∀ s : Bool, Q s → RL P n sQ N0 ops N rest (upd ρ d (.bool s)) w) : RL P n sQ N0 ops N (.cons ⟨some d, .load ty x, t, p, af, none⟩ f' rest) ρ w :=
  let ⟨s, hc, h⟩ := h; RL.ld rfl _ ht hx hc (hk s h)
theorem lD {x : Operand} {a : Addr} {ty : TypeId} {v : Value} (ht : One P ty) (hc : w.cell? a = some v) (hx : ev n ρ x = .pointer (some a)) (h : RL P n sQ N0 ops N rest (upd ρ d v) w) : RL P n sQ N0 ops N (.cons ⟨some d, .load ty x, t, p, af, none⟩ f' rest) ρ w := RL.ld rfl v ht hx hc h
theorem lA {x : Operand} {a : Addr} {ty : TypeId} {l : List Value} (hc : cellsAt w a 0 l) (ht : Agg P ty l.length) (hx : ev n ρ x = .pointer (some a)) (h : RL P n sQ N0 ops N rest (upd ρ d (.agg l.toArray)) w) : RL P n sQ N0 ops N (.cons ⟨some d, .load ty x, t, p, af, none⟩ f' rest) ρ w := RL.la rfl l ht hx hc h
theorem aL {ty : TypeId} {z : Value} {Q : Nat → World → Prop} (hz : Zr P ty z) (h : ∀ b w1, b = w.heap.size → w1 = w.alloc (.cells z.cells ty) → Q b w1) (hk : ∀ b w1, Q b w1 → RL P n sQ S ops N rest (upd ρ d (.pointer (some ⟨b, 0, none⟩))) w1) : RL P n sQ S ops N (.cons ⟨some d, .alloc ty, t, p, af, none⟩ f' rest) ρ w :=
  RL.al rfl hz fun b w1 e1 e2 => hk b w1 (h b w1 e1 e2)
theorem bX {ty : TypeId} {x : Operand} {Q : Nat → World → Prop} (v : Value) (h : ∀ b w1, b = w.heap.size → w1 = w.alloc (.cells v.cells ty) → Q b w1) (hx : ev n ρ x = v) (hk : ∀ b w1, Q b w1 → RL P n sQ S ops N rest (upd ρ d (.pointer (some ⟨b, 0, none⟩))) w1) : RL P n sQ S ops N (.cons ⟨some d, .box ty x, t, p, af, none⟩ f' rest) ρ w :=
  RL.bx rfl v hx fun b w1 e1 e2 => hk b w1 (h b w1 e1 e2)
theorem bA {ty : TypeId} {x : Operand} {Q : Nat → World → Prop} {v : Array Value} (h : ∀ b w1, b = w.heap.size → w1 = w.alloc (.cells v ty) → Q b w1) (hx : ev n ρ x = .agg v) (hk : ∀ b w1, Q b w1 → RL P n sQ S ops N rest (upd ρ d (.pointer (some ⟨b, 0, none⟩))) w1) : RL P n sQ S ops N (.cons ⟨some d, .box ty x, t, p, af, none⟩ f' rest) ρ w :=
  RL.bx rfl (.agg v) hx fun b w1 e1 e2 => hk b w1 (h b w1 e1 e2)
theorem sT {x y : Operand} {a : Addr} {ty : TypeId} {v : Value} {Q : World → Prop} (ht : One P ty) (h : (w.cell? a).isSome = true ∧ w.frozen? a = false ∧ ∀ w1, w1 = w.setCell a v → Q w1) (hv : (ev n ρ x, ev n ρ y, v.oneCell') = (.pointer (some a), v, true)) (hk : ∀ w1, Q w1 → RL P n sQ S ops N rest ρ w1) : RL P n sQ S ops N (.cons ⟨none, .store ty x y, t, p, af, none⟩ false rest) ρ w :=
  RL.st rfl rfl v ht (Prod.mk.inj hv).1 (Prod.mk.inj (Prod.mk.inj hv).2).1 (Prod.mk.inj (Prod.mk.inj hv).2).2 ⟨h.1, h.2.1, fun w1 e => hk w1 (h.2.2 w1 e)⟩
theorem sC {x y : Operand} {a : Addr} {ty : TypeId} {l : List Value} {m : Nat} {Q : World → Prop} (ht : Agg P ty m) (h : mayCells w a 0 m ∧ ∀ w1, w1 = setCells w a 0 l → Q w1) (hv : (ev n ρ x, ev n ρ y, l.all (·.oneCell'), l.length) = (.pointer (some a), .agg l.toArray, true, m)) (hk : ∀ w1, Q w1 → RL P n sQ S ops N rest ρ w1) : RL P n sQ S ops N (.cons ⟨none, .store ty x y, t, p, af, none⟩ false rest) ρ w := by
  obtain ⟨h1, g2⟩ := Prod.mk.inj hv
  obtain ⟨h2, g3⟩ := Prod.mk.inj g2
  obtain ⟨h3, h4⟩ := Prod.mk.inj g3
  subst h4
  exact RL.sa rfl rfl l ht h1 h2 h3 ⟨h.1, fun w1 e => hk w1 (h.2 w1 e)⟩
theorem iB {op : BinOp} {k : IntKind} {x y : Operand} {xt yt : TypeId} {a b : Int} {v : Value} (hv : (ev n ρ x, ev n ρ y, iop op k a b) = (.int k a, .int k b, some v)) (h : RL P n sQ S ops N rest (upd ρ d v) w) : RL P n sQ S ops N (.cons ⟨some d, .binOp op xt x y yt, t, p, af, none⟩ f' rest) ρ w := RL.ib rfl v (Prod.mk.inj hv).1 (Prod.mk.inj (Prod.mk.inj hv).2).1 (Prod.mk.inj (Prod.mk.inj hv).2).2 h
theorem sB {op : BinOp} {x y : Operand} {xt yt : TypeId} {a b : Str} {v : Bool} (hv : (ev n ρ x, ev n ρ y, sop op a b) = (.string (mkS a), .string (mkS b), some v)) (h : RL P n sQ S ops N rest (upd ρ d (.bool v)) w) : RL P n sQ S ops N (.cons ⟨some d, .binOp op xt x y yt, t, p, af, none⟩ f' rest) ρ w := RL.sb rfl v (Prod.mk.inj hv).1 (Prod.mk.inj (Prod.mk.inj hv).2).1 (Prod.mk.inj (Prod.mk.inj hv).2).2 h
theorem nT {x : Operand} {xt : TypeId} {b : Bool} (hx : ev n ρ x = .bool b) (h : RL P n sQ S ops N rest (upd ρ d (.bool (!b))) w) : RL P n sQ S ops N (.cons ⟨some d, .unOp .not xt x, t, p, af, none⟩ f' rest) ρ w := RL.nt rfl hx h
theorem iX {x y : Operand} {xt : TypeId} {a : Str} {k : IntKind} {i : Int} {Q : Prop} (hd : P.underlying xt = some .string) (h : (0 ≤ i ∧ i < a.length) ∧ Q) (hv : (ev n ρ x, ev n ρ y) = (.string (mkS a), .int k i)) (hk : Q → RL P n sQ S ops N rest (upd ρ d (.int .u8 ((a.getD i.toNat 0).toNat))) w) : RL P n sQ S ops N (.cons ⟨some d, .index xt x y, t, p, af, none⟩ f' rest) ρ w := RL.ix rfl hd (Prod.mk.inj hv).1 (Prod.mk.inj hv).2 ⟨h.1, hk h.2⟩
theorem lN {x : Operand} {ty : TypeId} {a : Str} (hd : P.underlying ty = some .string) (hx : ev n ρ x = .string (mkS a)) (h : RL P n sQ S ops N rest (upd ρ d (.int .i64 a.length)) w) : RL P n sQ S ops N (.cons ⟨some d, .call ⟨.builtin .len, #[x], #[ty]⟩, t, p, af, none⟩ f' rest) ρ w := RL.ln rfl hd hx h
theorem lL {x : Operand} {ty e : TypeId} {a : Option Addr} {l c : Nat} (hd : P.underlying ty = some (.slice e)) (hx : ev n ρ x = .slice a l c) (h : RL P n sQ S ops N rest (upd ρ d (.int .i64 l)) w) : RL P n sQ S ops N (.cons ⟨some d, .call ⟨.builtin .len, #[x], #[ty]⟩, t, p, af, none⟩ f' rest) ρ w := RL.ll rfl hd hx h
theorem sS {x : Operand} {lo hi : Option Operand} {xt : TypeId} {a : Str} {i j : Int} {Q : Prop} (hd : P.underlying xt = some .string) (h : (0 ≤ i ∧ i ≤ j ∧ j ≤ a.length) ∧ Q) (hx : ev n ρ x = .string (mkS a)) (hlo : bd ρ n lo 0 i) (hhi : bd ρ n hi a.length j) (hk : Q → RL P n sQ S ops N rest (upd ρ d (.string (mkS (sub a i j)))) w) : RL P n sQ S ops N (.cons ⟨some d, .slice xt x lo hi none, t, p, af, none⟩ f' rest) ρ w := RL.ss rfl hd hx hlo hhi ⟨h.1, hk h.2⟩
theorem xT {x : Operand} {i : Nat} {l : List Value} {v : Value} (hv : (ev n ρ x, l[i]?) = (.tuple l.toArray, some v)) (h : RL P n sQ S ops N rest (upd ρ d v) w) : RL P n sQ S ops N (.cons ⟨some d, .extract x i, t, p, af, none⟩ f' rest) ρ w := RL.ex rfl v (Prod.mk.inj hv).1 (Prod.mk.inj hv).2 h
theorem bU {ty : TypeId} {ps : Array (Nat × Operand)} {qs : List (Nat × Value)} {v : Value} (hv : ∀ w, (Instr.build ty qs.toArray).run P w = .ok v w) (hp : (ps.toList.map fun (i, x) => (i, ev n ρ x)) = qs) (h : RL P n sQ S ops N rest (upd ρ d v) w) : RL P n sQ S ops N (.cons ⟨some d, .build ty ps, t, p, af, none⟩ f' rest) ρ w := RL.bu rfl v hp hv h
theorem bS {ty : TypeId} {m : Nat} {ps : Array (Nat × Operand)} {qs : List (Nat × Value)} {cs : List Value} {e : TypeId} {Q : Nat → World → Prop} (hv : ∀ w, (Instr.buildSlice ty m qs.toArray).run P w = .ok (.slice (some ⟨w.heap.size, 0, none⟩) m m) (w.alloc (.cells cs.toArray e))) (h : ∀ b w1, b = w.heap.size → w1 = w.alloc (.cells cs.toArray e) → Q b w1) (hp : (ps.toList.map fun (i, x) => (i, ev n ρ x)) = qs) (hk : ∀ b w1, Q b w1 → RL P n sQ S ops N rest (upd ρ d (.slice (some ⟨b, 0, none⟩) m m)) w1) : RL P n sQ S ops N (.cons ⟨some d, .buildSlice ty m ps, t, p, af, none⟩ f' rest) ρ w :=
  RL.bs rfl hp hv fun b w1 e1 e2 => hk b w1 (h b w1 e1 e2)
theorem fD {xt : TypeId} {x : Operand} {f : Nat} {vx v : Value} (hv : ∀ w, (Instr.field xt vx f).run P w = .ok v w) (hx : ev n ρ x = vx) (h : RL P n sQ S ops N rest (upd ρ d v) w) : RL P n sQ S ops N (.cons ⟨some d, .field xt x f, t, p, af, none⟩ f' rest) ρ w := RL.fd rfl v hx hv h
theorem xP {x y : Operand} {ts : Array TypeId} {vx vy : Value} {Q : Sl → World → Prop} (h : ∃ (s : Sl) (w1 : World), (Builtin.append_ ts t #[vx, vy]).run P w = .ok (.slice s.base s.len s.cap) w1 ∧ Q s w1) (hv : (ev n ρ x, ev n ρ y) = (vx, vy)) (hk : ∀ s w1, Q s w1 → RL P n sQ S ops N rest (upd ρ d (.slice (Sl.base s) s.len s.cap)) w1) : RL P n sQ S ops N (.cons ⟨some d, .call ⟨.builtin .append, #[x, y], ts⟩, t, p, af, none⟩ false rest) ρ w :=
  RL.ap rfl rfl (Prod.mk.inj hv).1 (Prod.mk.inj hv).2 (let ⟨s, w1, hr, h⟩ := h; ⟨s, w1, hr, hk s w1 h⟩)
theorem cC {f : FuncId} {dd : Option Nat} {as_ : Array Operand} {ts : Array TypeId} {va : List Value} {Q : Value → World → Prop} (hf : IsFn P f) (h : Cl P f va w Q) (ha : as_.toList.map (ev n ρ) = va) (hk : ∀ v w1, Q v w1 → RL P n sQ S ops N rest (put ρ dd v) w1) : RL P n sQ S ops N (.cons ⟨dd, .call ⟨.value (.func f), as_, ts⟩, t, p, af, none⟩ false rest) ρ w :=
  RL.ca rfl rfl hf ha (h.mono hk)
theorem cX {f : FuncId} {dd : Option Nat} {as_ : Array Operand} {ts : Array TypeId} {va : List Value} {Q : Value → World → Prop} (hf : IsFn P f) (h : Cl P f va w fun v w1 => Ext w w1 ∧ Q v w1) (ha : as_.toList.map (ev n ρ) = va) (hk : ∀ v w1, Q v w1 → RL P n sQ S ops N rest (put ρ dd v) w1) : RL P n sQ S ops N (.cons ⟨dd, .call ⟨.value (.func f), as_, ts⟩, t, p, af, none⟩ f' rest) ρ w :=
  RL.cx rfl hf ha (h.mono fun v w1 h => ⟨h.1, hk v w1 h.2⟩)
theorem sV {dd : Option Nat} {v v' : Value} (e : v = v') (h : RL P n sQ S ops N rest (put ρ dd v') w) : RL P n sQ S ops N rest (put ρ dd v) w := e ▸ h
theorem cI {f : FuncId} {dd : Option Nat} {as_ : Array Operand} {ts : Array TypeId} {va : List Value} {k : IntKind} {Q : Int → World → Prop} (hf : IsFn P f) (h : Cl P f va w fun v w1 => ∃ s : Int, v = .int k s ∧ Q s w1) (ha : as_.toList.map (ev n ρ) = va) (hk : ∀ s w1, Q s w1 → RL P n sQ S ops N rest (put ρ dd (.int k s)) w1) : RL P n sQ S ops N (.cons ⟨dd, .call ⟨.value (.func f), as_, ts⟩, t, p, af, none⟩ false rest) ρ w :=
  RL.ca rfl rfl hf ha (h.mono fun v w1 ⟨s, e, h⟩ => e ▸ hk s w1 h)
theorem cT {f : FuncId} {dd : Option Nat} {as_ : Array Operand} {ts : Array TypeId} {va : List Value} {Q : Str → World → Prop} (hf : IsFn P f) (h : Cl P f va w fun v w1 => ∃ s : Str, v = .string (mkS s) ∧ Q s w1) (ha : as_.toList.map (ev n ρ) = va) (hk : ∀ s w1, Q s w1 → RL P n sQ S ops N rest (put ρ dd (.string (mkS s))) w1) : RL P n sQ S ops N (.cons ⟨dd, .call ⟨.value (.func f), as_, ts⟩, t, p, af, none⟩ false rest) ρ w :=
  RL.ca rfl rfl hf ha (h.mono fun v w1 ⟨s, e, h⟩ => e ▸ hk s w1 h)
theorem cS {f : FuncId} {dd : Option Nat} {as_ : Array Operand} {ts : Array TypeId} {va : List Value} {Q : Sl → World → Prop} (hf : IsFn P f) (h : Cl P f va w fun v w1 => ∃ s : Sl, v = .slice s.base s.len s.cap ∧ Q s w1) (ha : as_.toList.map (ev n ρ) = va) (hk : ∀ s w1, Q s w1 → RL P n sQ S ops N rest (put ρ dd (.slice s.base s.len s.cap)) w1) : RL P n sQ S ops N (.cons ⟨dd, .call ⟨.value (.func f), as_, ts⟩, t, p, af, none⟩ false rest) ρ w :=
  RL.ca rfl rfl hf ha (h.mono fun v w1 ⟨s, e, h⟩ => e ▸ hk s w1 h)
theorem cB {f : FuncId} {dd : Option Nat} {as_ : Array Operand} {ts : Array TypeId} {va : List Value} {Q : Bool → World → Prop} (hf : IsFn P f) (h : Cl P f va w fun v w1 => ∃ s : Bool, v = .bool s ∧ Q s w1) (ha : as_.toList.map (ev n ρ) = va) (hk : ∀ s w1, Q s w1 → RL P n sQ S ops N rest (put ρ dd (.bool s)) w1) : RL P n sQ S ops N (.cons ⟨dd, .call ⟨.value (.func f), as_, ts⟩, t, p, af, none⟩ false rest) ρ w :=
  RL.ca rfl rfl hf ha (h.mono fun v w1 ⟨s, e, h⟩ => e ▸ hk s w1 h)
theorem r1 {fn : Func} {k : Value → World → Prop} {t : Tmp} {v : Value} (h : k v w) (hr : (fn.results, ev n ρ (.tmp t), ρ.ds) = (#[.tmp t], v, [])) : Res P fn n k ρ w := by
  obtain ⟨h1, h2⟩ := Prod.mk.inj hr
  obtain ⟨h2, h3⟩ := Prod.mk.inj h2
  exact Res.r1 h1 v h2 (by rw [h3]; exact h)
theorem rT {fn : Func} {k : Value → World → Prop} {t : Tmp} {v : Value} (h : k v w) (hr : (fn.results, ev n ρ (.tmp t), ρ.ds) = (#[.tmp t], v, [])) : W P n ro .ret N X (Res P fn n k) ρ w := W.rt (r1 h hr)
theorem rC {fn : Func} {k : Value → World → Prop} {vs : List Value} (rs : List ResultVar) (h : k (.tuple vs.toArray) w) (hr : RV P (act n ρ).tmps w rs vs) (hv : (fn.results, rs.length == 1, ρ.ds) = (rs.toArray, false, [])) : Res P fn n k ρ w := by
  obtain ⟨h1, h2⟩ := Prod.mk.inj hv
  obtain ⟨h2, h3⟩ := Prod.mk.inj h2
  exact Res.cs h1 (by simpa using h2) (by rw [h3]; exact ⟨hr, h⟩)
theorem rD {fn : Func} {k : Value → World → Prop} {v : Value} (r : ResultVar) (h : k v w) (hr : (rvRun (act n ρ).tmps r).run P w = .ok v w) (hv : (fn.results, ρ.ds) = (#[r], [])) : Res P fn n k ρ w := by
  obtain ⟨h1, h2⟩ := Prod.mk.inj hv
  exact Res.c1 h1 (by rw [h2]; exact ⟨hr, h⟩)
theorem eN {f : FuncId} {fn : Func} {c : Code} {args : List Value} {k : Value → World → Prop} (n : Nat) (hf : P.funcs[f]? = some fn) (hv : (fn.body, fn.ntmps, Nat.ble args.length n) = (some c, n, true)) (h : W P n none c (Res P fn n k) (fun _ _ _ => False) (Res P fn n k) (ini args) w) : Cl P f args w k := by
  obtain ⟨h1, h2⟩ := Prod.mk.inj hv
  obtain ⟨h2, h3⟩ := Prod.mk.inj h2
  exact Cl.enter hf h1 h2 (Nat.le_of_ble_eq_true h3) h
theorem rS {fn : Func} {k : Value → World → Prop} {vs : List Value} (ts : List Tmp) (h : k (.tuple vs.toArray) w) (hv : (fn.results, ts.length == 1, ts.map (fun t => ev n ρ (.tmp t)), ρ.ds) = ((ts.map ResultVar.tmp).toArray, false, vs, [])) : Res P fn n k ρ w := by
  obtain ⟨h1, h2⟩ := Prod.mk.inj hv
  obtain ⟨h2, h3⟩ := Prod.mk.inj h2
  obtain ⟨h3, h4⟩ := Prod.mk.inj h3
  exact Res.rs h1 (by simpa using h2) h3 (by rw [h4]; exact h)
theorem jn0 {c : Code} {Q : (World → Prop) → World → Prop} {C : (World → Prop) → Prop} (h : ∃ M : World → Prop, (∀ w, M w → Q M w) ∧ C M) (E : List (Nat × Value)) (hN : ∀ M ρ0 w, Q M w → N (env ρ0 ρ.ds (E)) w)
    (hk : ∀ M, C M → W P n ro c (fun ρ' w => ∃ (ρ0 : Nat → Value), ρ' = env ρ0 ρ.ds (E) ∧ M w) X R ρ w) : W P n ro c N X R ρ w := by
  obtain ⟨M, h1, h2⟩ := h
  refine W.jn ?_ (hk M h2)
  rintro ρ' w ⟨ρ0, rfl, hM⟩
  exact hN M ρ0 w (h1 w hM)
theorem je0  {M : World → Prop} {E : List (Nat × Value)} {ds : List Deferred} (h : M w) (hE : agr ρ ds (E)) : ∃ (ρ0 : Nat → Value), ρ = env ρ0 ds (E) ∧ M w :=
  ⟨_, agr_eq hE, h⟩
theorem lp1 {α0 : Type} {c : Code} {a0 : α0} {Q : (Nat → α0 → World → Prop) → Nat → α0 → World → Prop} (h : ∃ I : Nat → α0 → World → Prop, (∃ m, I m a0 w) ∧ ∀ m (x0 : α0) w, I m x0 w → Q I m x0 w) (E : α0 → List (Nat × Value)) (hE : agr ρ ρ.ds (E a0))
    (hk : ∀ I m (x0 : α0) ρ0 w, Q I m x0 w → W P n ro c (fun ρ' w => ∃ m', m' < m ∧ ∃ (ρ0 : Nat → Value) (x0 : α0), ρ' = env ρ0 ρ.ds (E x0) ∧ I m' x0 w) X R (env ρ0 ρ.ds (E x0)) w) : W P n ro (.loop c) N X R ρ w := by
  obtain ⟨I, ⟨m, h0⟩, h⟩ := h
  refine W.lp (fun m ρ' w => ∃ (ρ0 : Nat → Value) (x0 : α0), ρ' = env ρ0 ρ.ds (E x0) ∧ I m x0 w) ⟨m, _, _, agr_eq hE, h0⟩ ?_
  rintro m ρ' w ⟨ρ0, x0, rfl, hI⟩
  exact hk I m x0 ρ0 w (h m x0 w hI)
theorem le1 {α0 : Type} {m : Nat} {a0 : α0} {I : Nat → α0 → World → Prop} {E : α0 → List (Nat × Value)} {ds : List Deferred} (h : ∃ m', m' < m ∧ I m' a0 w) (hE : agr ρ ds (E a0)) : ∃ m', m' < m ∧ ∃ (ρ0 : Nat → Value) (x0 : α0), ρ = env ρ0 ds (E x0) ∧ I m' x0 w :=
  let ⟨m', h1, h2⟩ := h; ⟨m', h1, _, _, agr_eq hE, h2⟩
theorem jn1 {α0 : Type} {c : Code} {Q : (α0 → World → Prop) → α0 → World → Prop} {C : (α0 → World → Prop) → Prop} (h : ∃ M : α0 → World → Prop, (∀ (x0 : α0) w, M x0 w → Q M x0 w) ∧ C M) (E : α0 → List (Nat × Value)) (hN : ∀ M (x0 : α0) ρ0 w, Q M x0 w → N (env ρ0 ρ.ds (E x0)) w)
    (hk : ∀ M, C M → W P n ro c (fun ρ' w => ∃ (ρ0 : Nat → Value) (x0 : α0), ρ' = env ρ0 ρ.ds (E x0) ∧ M x0 w) X R ρ w) : W P n ro c N X R ρ w := by
  obtain ⟨M, h1, h2⟩ := h
  refine W.jn ?_ (hk M h2)
  rintro ρ' w ⟨ρ0, x0, rfl, hM⟩
  exact hN M x0 ρ0 w (h1 x0 w hM)
theorem je1 {α0 : Type}  {a0 : α0} {M : α0 → World → Prop} {E : α0 → List (Nat × Value)} {ds : List Deferred} (h : M a0 w) (hE : agr ρ ds (E a0)) : ∃ (ρ0 : Nat → Value) (x0 : α0), ρ = env ρ0 ds (E x0) ∧ M x0 w :=
  ⟨_, _, agr_eq hE, h⟩
theorem lp2 {α0 α1 : Type} {c : Code} {a0 : α0} {a1 : α1} {Q : (Nat → α0 → α1 → World → Prop) → Nat → α0 → α1 → World → Prop} (h : ∃ I : Nat → α0 → α1 → World → Prop, (∃ m, I m a0 a1 w) ∧ ∀ m (x0 : α0) (x1 : α1) w, I m x0 x1 w → Q I m x0 x1 w) (E : α0 → α1 → List (Nat × Value)) (hE : agr ρ ρ.ds (E a0 a1))
    (hk : ∀ I m (x0 : α0) (x1 : α1) ρ0 w, Q I m x0 x1 w → W P n ro c (fun ρ' w => ∃ m', m' < m ∧ ∃ (ρ0 : Nat → Value) (x0 : α0) (x1 : α1), ρ' = env ρ0 ρ.ds (E x0 x1) ∧ I m' x0 x1 w) X R (env ρ0 ρ.ds (E x0 x1)) w) : W P n ro (.loop c) N X R ρ w := by
  obtain ⟨I, ⟨m, h0⟩, h⟩ := h
  refine W.lp (fun m ρ' w => ∃ (ρ0 : Nat → Value) (x0 : α0) (x1 : α1), ρ' = env ρ0 ρ.ds (E x0 x1) ∧ I m x0 x1 w) ⟨m, _, _, _, agr_eq hE, h0⟩ ?_
  rintro m ρ' w ⟨ρ0, x0, x1, rfl, hI⟩
  exact hk I m x0 x1 ρ0 w (h m x0 x1 w hI)
theorem le2 {α0 α1 : Type} {m : Nat} {a0 : α0} {a1 : α1} {I : Nat → α0 → α1 → World → Prop} {E : α0 → α1 → List (Nat × Value)} {ds : List Deferred} (h : ∃ m', m' < m ∧ I m' a0 a1 w) (hE : agr ρ ds (E a0 a1)) : ∃ m', m' < m ∧ ∃ (ρ0 : Nat → Value) (x0 : α0) (x1 : α1), ρ = env ρ0 ds (E x0 x1) ∧ I m' x0 x1 w :=
  let ⟨m', h1, h2⟩ := h; ⟨m', h1, _, _, _, agr_eq hE, h2⟩
end
end K
end Go.V
