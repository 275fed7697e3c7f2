/- Results in cells; a range over a function. -/
import Derived.Test.YtpkkbbdffhcpaaaDoorV2
namespace Go.V
open Go.RowKit
section
variable {P : Program} {n : Nat}

/-- One result, read off. -/
def rvRun (T : Array Value) : ResultVar → Sem Value
  | .tmp t => pure (T.getD t undef)
  | .cell a t => do loadVar t (← asAddr (T.getD a undef))
theorem rv_tmp {ρ : Env} {t : Tmp} {v : Value} (hv : ev n ρ (.tmp t) = v) (w : World) : (rvRun (act n ρ).tmps (.tmp t)).run P w = .ok v w := by
  simp only [rvRun, Sem.run_pure, getD_act, hv]
theorem rv_one {ρ : Env} {t : Tmp} {ty : TypeId} {a : Addr} {v : Value} {w : World} (ht : One P ty) (hv : ev n ρ (.tmp t) = .pointer (some a)) (hc : w.cell? a = some v) : (rvRun (act n ρ).tmps (.cell t ty)).run P w = .ok v w := by
  simp only [rvRun, getD_act, hv, loadVar, asAddr, Sem.run_bind, Sem.run_pure, Result.andThen_ok, run_isAgg_one ht, Bool.false_eq_true, if_false]
  simp only [load, Sem.run, hc]
theorem rv_agg {ρ : Env} {t : Tmp} {ty : TypeId} {a : Addr} {l : List Value} {w : World} (ht : Agg P ty l.length) (hv : ev n ρ (.tmp t) = .pointer (some a)) (hc : cellsAt w a 0 l) : (rvRun (act n ρ).tmps (.cell t ty)).run P w = .ok (.agg l.toArray) w := by
  simp only [rvRun, getD_act, hv, asAddr, Sem.run_bind, Sem.run_pure, Result.andThen_ok, run_loadAgg ht hc]
def RV (P : Program) (T : Array Value) (w : World) : List ResultVar → List Value → Prop
  | [], [] => True
  | r :: rs, v :: vs => (rvRun T r).run P w = .ok v w ∧ RV P T w rs vs
  | _, _ => False
theorem RV.run {T : Array Value} {w : World} : ∀ {rs : List ResultVar} {vs : List Value}, RV P T w rs vs → (rs.mapM (rvRun T)).run P w = .ok vs w
  | [], [], _ => rfl
  | r :: rs, v :: vs, h => by
    simp only [List.mapM_cons, Sem.run_bind, Sem.run_pure, h.1, RV.run h.2, Result.andThen_ok]
  | [], _ :: _, h => h.elim
  | _ :: _, [], h => h.elim
theorem RV.len {T : Array Value} {w : World} : ∀ {rs : List ResultVar} {vs : List Value}, RV P T w rs vs → rs.length = vs.length
  | [], [], _ => rfl
  | _ :: _, _ :: _, h => congrArg (· + 1) (RV.len h.2)
  | [], _ :: _, h => h.elim
  | _ :: _, [], h => h.elim
theorem results_eq (fn : Func) (T : Array Value) : results fn T = (do let vs ← fn.results.mapM (rvRun T); pure (if h : vs.size = 1 then vs[0] else .tuple vs)) := by
  unfold results
  congr 1
theorem Res.cs {fn : Func} {k : Value → World → Prop} {ρ : Env} {w : World} {rs : List ResultVar} {vs : List Value} (h : fn.results = rs.toArray) (h0 : rs.length ≠ 1)
    (hk : Lv P (fun w => RV P (act n ρ).tmps w rs vs ∧ k (.tuple vs.toArray) w) ρ.ds w) : Res P fn n k ρ w := by
  refine Lv.mono (fun w hk => ⟨.tuple vs.toArray, ?_, hk.2⟩) hk
  have h1 : vs.length ≠ 1 := hk.1.len ▸ h0
  rw [results_eq]
  simp only [h, List.mapM_toArray, Sem.run_bind, Sem.run_map]
  rw [hk.1.run]
  simp only [Result.andThen_ok, List.size_toArray, h1, dite_false, Sem.run_pure]
theorem Res.c1 {fn : Func} {k : Value → World → Prop} {ρ : Env} {w : World} {r : ResultVar} {v : Value} (h : fn.results = #[r])
    (hk : Lv P (fun w => (rvRun (act n ρ).tmps r).run P w = .ok v w ∧ k v w) ρ.ds w) : Res P fn n k ρ w := by
  refine Lv.mono (fun w hk => ⟨v, ?_, hk.2⟩) hk
  rw [results_eq, h]
  have : (#[r] : Array ResultVar) = [r].toArray := rfl
  have hr : RV P (act n ρ).tmps w [r] [v] := ⟨hk.1, trivial⟩
  rw [this]
  simp only [List.mapM_toArray, Sem.run_bind, Sem.run_map]
  rw [hr.run]
  simp [Sem.run_pure]

/-! ### A range over a function -/
/-- The record of the loop is at block l, in this state, with this jump to come. -/
def LpAt (w : World) (l : Nat) (L : Loop) (st : LoopState) (pd : Option Code) : Prop := w.heap[l]? = some (.loop { L with state := st, pending := pd })
/-- A round has ended so. -/
def ER (w : World) (l : Nat) (L : Loop) (pd : Option Code) (k : Value → World → Prop) : Prop :=
  ∃ st0 pd0, LpAt w l L st0 pd0 ∧ ∀ w', w' = w.putObj l (.loop { L with state := if pd.isNone then .ready else .done, pending := pd }) → k (.bool pd.isNone) w'
def XE (l : Nat) (L : Loop) (k : Value → World → Prop) : Nat → Post := fun j _ w => ER w l L (some (bif Nat.beq (j % 2) 0 then .exit (j / 2) else .goto (j / 2))) k
def puts (ρ : Env) : List Nat → List Value → Env
  | t :: ts, v :: vs => puts (upd ρ t v) ts vs
  | _, _ => ρ
theorem XE.x {l : Nat} {L : Loop} {k : Value → World → Prop} {j : Nat} {ρ : Env} {w : World} (h : ER w l L (some (.exit j)) k) : XE l L k (2 * j) ρ w := by
  unfold XE
  have h1 : 2 * j % 2 = 0 := by omega
  have h2 : 2 * j / 2 = j := by omega
  rw [h1, h2]; exact h
theorem XE.g {l : Nat} {L : Loop} {k : Value → World → Prop} {j : Nat} {ρ : Env} {w : World} (h : ER w l L (some (.goto j)) k) : XE l L k (2 * j + 1) ρ w := by
  unfold XE
  have h1 : (2 * j + 1) % 2 = 1 := by omega
  have h2 : (2 * j + 1) / 2 = j := by omega
  rw [h1, h2]; exact h

theorem act_tmps_upd (n : Nat) (ρ : Env) (d : Nat) (v : Value) : (act n ρ).tmps.setIfInBounds d v = (act n (upd ρ d v)).tmps := by
  have := put_act n ρ (some d) v
  exact congrArg Act.tmps this
theorem foldl_puts (n : Nat) : ∀ (ps : List Nat) (args : List Value) (ρ : Env), (ps.zip args).foldl (fun tmps (x : Nat × Value) => tmps.setIfInBounds x.1 x.2) (act n ρ).tmps = (act n (puts ρ ps args)).tmps
  | [], _, _ => rfl
  | _ :: _, [], _ => rfl
  | t :: ts, v :: vs, ρ => by
    simp only [List.zip_cons_cons, List.foldl_cons, puts, act_tmps_upd]
    exact foldl_puts n ts vs _
theorem ER.ends {w : World} {l : Nat} {L : Loop} {pd : Option Code} {k : Value → World → Prop} (h : ER w l L pd k) : ∃ v w', (Instr.endRound l pd).run P w = .ok v w' ∧ ∃ v', Ending.returned v = .returned v' ∧ k v' w' := by
  obtain ⟨st0, pd0, hl, h⟩ := h
  exact ⟨_, _, run_endRound pd hl, _, rfl, h _ rfl⟩

/-- One round, out of its body's walk. -/
theorem Yd.of {L : Loop} {l : Nat} {pd0 : Option Code} {w : World} {ρ : Env} {args : List Value} {ps : List Nat} {as_ body : Code} {k : Value → World → Prop}
    (hL : LpAt w l L .ready pd0) (ht : L.tmps = (act n ρ).tmps) (hp : L.params = ps.toArray) (ha : L.assign = as_) (hb : L.body = body) (hlen : args.length = ps.length)
    (h : W P n (some l) as_ (fun ρ3 w3 => ∃ pd1, LpAt w3 l L .ready pd1 ∧ ∀ w4, w4 = w3.putObj l (.loop { L with state := .busy, pending := pd1 }) →
        W P n (some l) body (fun _ w5 => ER w5 l L none k) (XE l L k) (fun _ w5 => ER w5 l L (some .ret) k) ρ3 w4) (fun _ _ _ => False) (fun _ _ => False) ⟨(puts ρ ps args).f, []⟩ w) :
    Yd P l args w k := by
  refine ⟨_, hL, by simp [hp, hlen], ?_⟩
  simp only
  have e : ((L.params.zip args.toArray).foldl (fun tmps (x : Nat × Value) => tmps.setIfInBounds x.1 x.2) L.tmps) = (act n (puts ρ ps args)).tmps := by
    rw [ht, hp]
    have : (ps.toArray.zip args.toArray) = (ps.zip args).toArray := by simp
    rw [this, List.foldl_toArray]
    exact foldl_puts n ps args ρ
  rw [e, ha, hb]
  refine roundIn_of_wpIn (fw_fn _ _) ?_
  refine wpIn_mono (F := fw (some l)) h ?_
  intro e a w3 h
  cases e <;> simp only [QQ, Exit.then] at h ⊢
  · obtain ⟨ρ3, rfl, pd1, hl, h⟩ := h
    refine ⟨_, run_beginRound hl rfl, ?_⟩
    refine wpIn_mono (F := fw (some l)) (h _ rfl) ?_
    intro e a w5 h
    cases e with
    | normal => obtain ⟨ρ, rfl, h⟩ := h; exact h.ends
    | ret => obtain ⟨ρ, rfl, h⟩ := h; exact h.ends
    | exit j =>
      obtain ⟨ρ, rfl, h⟩ := h
      have h1 : 2 * j % 2 = 0 := by omega
      have h2 : 2 * j / 2 = j := by omega
      unfold XE at h; rw [h1, h2] at h; exact h.ends
    | goto j =>
      obtain ⟨ρ, rfl, h⟩ := h
      have h1 : (2 * j + 1) % 2 = 1 := by omega
      have h2 : (2 * j + 1) / 2 = j := by omega
      unfold XE at h; rw [h1, h2] at h; exact h.ends
    | panic c => exact h.elim
    | outgrown => exact h.elim
  · exact h.elim fun _ h => h.2
  · exact h.elim fun _ h => h.2
  · exact h.elim fun _ h => h.2

/-- The mark that an outermost loop leaves among the deferred calls. -/
def mk (r : Nat) : Deferred := { target := .collected r, args := #[] }
theorem Lv.mk {K : World → Prop} {ds : List Deferred} {r : Nat} {w : World} (h : w.heap[r]? = some (.deferred (some [])) ∧ ∀ w', w' = w.putObj r (.deferred none) → Lv P K ds w') : Lv P K (mk r :: ds) w :=
  ⟨r, _, rfl, run_takeDeferred h.1, h.2 _ rfl⟩
/-- What is next when the loop is left: on behind it, or the jump. -/
def JP (P : Program) (n : Nat) (N : Post) (X : Nat → Post) (R : Post) (ρ : Env) (w : World) : Option Code → Prop
  | none => N ρ w
  | some c => W P n none c N X R ρ w
theorem JP.o {N : Post} {X : Nat → Post} {R : Post} {ρ : Env} {w : World} {p : Option Code} (e : p = none) (h : N ρ w) : JP P n N X R ρ w p := by subst e; exact h
theorem JP.s {N : Post} {X : Nat → Post} {R : Post} {ρ : Env} {w : World} {p : Option Code} {c : Code} (e : p = some c) (h : W P n none c N X R ρ w) : JP P n N X R ρ w p := by subst e; exact h
theorem W.rf {g : Operand} {ps : List Nat} {as_ body : Code} {N : Post} {X : Nat → Post} {R : Post} {ρ : Env} {w : World} (fv : Value) (hg : ev n ρ g = fv)
    (h : ∀ (l : Nat) (L : Loop) (r : Nat) (w1 : World), r = w.heap.size → l = w.heap.size + 1 → L.tmps = (act n ρ).tmps → L.params = ps.toArray → L.assign = as_ → L.body = body → w1 = (w.alloc (.deferred (some []))).alloc (.loop L) → LpAt w1 l L .ready none →
      Cw P fv [.func (.yield l) #[] #[]] w1 fun _ w3 => ∃ st pd, LpAt w3 l L st pd ∧ st ≠ .busy ∧ ∀ w4, w4 = w3.putObj l (.loop { L with state := .exhausted, pending := pd }) → JP P n N X R ⟨ρ.f, mk r :: ρ.ds⟩ w4 pd) :
    W P n none (.rangeFunc g ps.toArray as_ body) N X R ρ w := by
  refine wpIn_rangeFunc ?_
  intro fn _
  let L : Loop := { state := .ready, pending := none, fn, tmps := (act n ρ).tmps, params := ps.toArray, assign := as_, body, defers := w.heap.size }
  have hw1 : LpAt ((w.alloc (.deferred (some []))).alloc (.loop L)) (w.heap.size + 1) L .ready none := by
    have := World.alloc_heap_new (w.alloc (.deferred (some []))) (.loop L)
    rwa [World.size_alloc] at this
  obtain ⟨f, caps, rfl, hf, hc⟩ := h (w.heap.size + 1) L _ _ rfl rfl rfl rfl rfl rfl rfl hw1
  obtain ⟨W1, hW1⟩ : ∃ W1, W1 = (w.alloc (.deferred (some []))).alloc (.loop L) := ⟨_, rfl⟩
  obtain ⟨lv, hlv⟩ : ∃ lv : Value, lv = .func (.yield (w.heap.size + 1)) #[] #[] := ⟨_, rfl⟩
  have hen : (Instr.enterLoop fn (act n ρ).tmps ps.toArray as_ body (fw none).round).run P w = .ok (w.heap.size + 1, [{ target := .collected w.heap.size, args := #[] }]) W1 := by
    rw [hW1]; exact run_enterLoop_outer _ _ _ _ _
  rw [← hW1, ← hlv] at hc
  refine ⟨w.heap.size + 1, [{ target := .collected w.heap.size, args := #[] }], W1, { target := .fn (.func f) caps.toArray, args := #[lv] }, W1, f,
    ([lv] ++ caps).toArray, W1, hen, ?_, fun _ _ => trivial, ?_, fw_depth _ _, calls_fw (Calls.mono hc ?_)⟩
  · have hg' : (act n ρ).eval g = .func (.func f) #[] caps.toArray := by rw [eval_act]; exact hg
    simp [resolve, Deferred.ofValue, hg', hlv]
    rfl
  · simp only [invoke, List.append_toArray]
    exact run_callFunc hf _ _
  · rintro e w3 ⟨v, rfl, st, pd, hl, hst, h⟩
    refine ⟨pd, _, run_endLoop hl hst, ?_⟩
    have h := h _ rfl
    cases pd with
    | none => exact ⟨_, rfl, h⟩
    | some c => exact h
end
/-! ### Further operations -/
section
variable {P : Program} {n : Nat} {sq : Bool} {S : Nat → Prop} {ops : Array Oper} {rest : OT} {f' : Bool} {N : Post} {ρ : Env} {w : World} {g : Option (Nat × Bool)}
variable {t : TypeId} {p : String} {af : Array Edge} {d : Nat}
/-- Bytes in memory as a text that shares them. -/
theorem RL.us {x y : Operand} {ts : Array TypeId} {vx vy : Value} (hfl : f' = false) (hg : wanted n ops ρ ⟨some d, .call ⟨.builtin .unsafeString, #[x, y], ts⟩, t, p, af, g⟩ = true) (hx : ev n ρ x = vx) (hy : ev n ρ y = vy)
    (h : ∃ (l : Str) (w1 : World), (Builtin.unsafeString_ ts t #[vx, vy]).run P w = .ok (.string (mkS l)) w1 ∧ RL P n sq S ops N rest (upd ρ d (.string (mkS l))) w1) :
    RL P n sq S ops N (.cons ⟨some d, .call ⟨.builtin .unsafeString, #[x, y], ts⟩, t, p, af, g⟩ f' rest) ρ w := by
  obtain ⟨l, w1, hr, h⟩ := h
  refine RL.ef (v := .string (mkS l)) (w' := w1) rfl hg ?_ (fun e => by rw [hfl] at e; cases e) h
  simp [execOp, resolve, invoke, builtin, hx, hy, hr]
theorem RL.m3 {x y z : Operand} {ts : Array TypeId} {k : IntKind} {a b c : Int} (hg : wanted n ops ρ ⟨some d, .call ⟨.builtin .max, #[x, y, z], ts⟩, t, p, af, g⟩ = true) (hx : ev n ρ x = .int k a) (hy : ev n ρ y = .int k b) (hz : ev n ρ z = .int k c)
    (h : RL P n sq S ops N rest (upd ρ d (.int k (max (max a b) c))) w) : RL P n sq S ops N (.cons ⟨some d, .call ⟨.builtin .max, #[x, y, z], ts⟩, t, p, af, g⟩ f' rest) ρ w := by
  refine RL.yp (v := .int k (max (max a b) c)) rfl hg (fun u => ?_) h
  have e1 : (if a < b then b else a) = max a b := by split <;> omega
  have e2 : (if max a b < c then c else max a b) = max (max a b) c := by split <;> omega
  simp [execOp, resolve, invoke, builtin, Builtin.max_, Builtin.max2, hx, hy, hz]
  rw [e1, e2]; omega
/-- An append beside which something is read that it leaves as it is. -/
theorem RL.apf {x y : Operand} {ts : Array TypeId} {vx vy : Value} (hg : wanted n ops ρ ⟨some d, .call ⟨.builtin .append, #[x, y], ts⟩, t, p, af, g⟩ = true) (hx : ev n ρ x = vx) (hy : ev n ρ y = vy)
    (h : ∃ (s : Sl) (w1 : World), (Builtin.append_ ts t #[vx, vy]).run P w = .ok (.slice s.base s.len s.cap) w1 ∧ Exs S w w1 ∧ RL P n sq S ops N rest (upd ρ d (.slice s.base s.len s.cap)) w1) :
    RL P n sq S ops N (.cons ⟨some d, .call ⟨.builtin .append, #[x, y], ts⟩, t, p, af, g⟩ f' rest) ρ w := by
  obtain ⟨s, w1, hr, hs, h⟩ := h
  refine RL.ef (v := .slice s.base s.len s.cap) (w' := w1) rfl hg ?_ (fun _ => hs) h
  simp [execOp, resolve, invoke, builtin, hx, hy, hr]
end
end Go.V
