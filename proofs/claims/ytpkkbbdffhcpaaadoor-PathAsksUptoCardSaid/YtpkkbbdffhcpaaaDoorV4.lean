/- Maps as lists of keys and values. -/
import Derived.Test.YtpkkbbdffhcpaaaDoorV3
set_option linter.unusedSimpArgs false
set_option linter.unusedVariables false
set_option linter.unusedSectionVars false
namespace Go.V
open Go.RowKit

/-- What is known of a map's keys: 'ek' lays a key as a value. -/
structure Keys (P : Program) (kt : TypeId) {K : Type} [DecidableEq K] (ek : K → Value) : Prop where
  chk : ∀ e k u, (Instr.checkKey e 10000 kt (ek k)).run P u = .ok () u
  eq : ∀ k k' u, (Op.equal kt (ek k) (ek k')).run P u = .ok (decide (k = k')) u
  desc : ∃ d, P.underlying kt = some d ∧ ((∀ k k', Instr.sameNow d (ek k) (ek k') = some (decide (k = k'))) ∨ (∀ k k', Instr.sameNow d (ek k) (ek k') = none))
  bits : ∀ k, Instr.sameBits 10000 (ek k) (ek k) = true

def lk {K V : Type} [DecidableEq K] : List (K × V) → K → Option V
  | [], _ => none
  | (k', v) :: l, k => if k = k' then some v else lk l k
/-- A value put under a key: in its place, or at the end. -/
def ins {K V : Type} [DecidableEq K] : List (K × V) → K → V → List (K × V)
  | [], k, v => [(k, v)]
  | (k', v') :: l, k, v => if k = k' then (k', v) :: l else (k', v') :: ins l k v
def del {K V : Type} [DecidableEq K] : List (K × V) → K → List (K × V)
  | [], _ => []
  | (k', v') :: l, k => if k = k' then l else (k', v') :: del l k
theorem lk_ins {K V : Type} [DecidableEq K] (l : List (K × V)) (k : K) (v : V) (k' : K) : lk (ins l k v) k' = if k' = k then some v else lk l k' := by
  induction l with
  | nil => simp [ins, lk]
  | cons p l ih =>
    obtain ⟨a, b⟩ := p
    unfold ins
    by_cases h : k = a
    · subst h; simp only [if_true, lk]; split <;> simp_all
    · simp only [if_neg h, lk, ih]
      by_cases h2 : k' = a
      · subst h2; rw [if_pos rfl, if_pos rfl, if_neg (Ne.symm h)]
      · rw [if_neg h2, if_neg h2]

/-- Block r is a map of these entries. -/
def MapAt (w : World) (r : Nat) {K V : Type} (ek : K → Value) (evv : V → Value) (l : List (K × V)) : Prop :=
  ∃ es clock, w.heap[r]? = some (.map es clock) ∧ es.toList.map (fun e => (e.key, e.val)) = l.map (fun p => (ek p.1, evv p.2)) ∧ (es.toList.map (·.born)).Nodup ∧ (∀ e ∈ es.toList, e.born < clock)

section
variable {P : Program} {kt vt mt : TypeId} {K V : Type} [DecidableEq K] {ek : K → Value} {evv : V → Value} {w w' : World} {r : Nat} {l : List (K × V)}

theorem MapAt.new (w : World) (ek : K → Value) (evv : V → Value) : MapAt (w.alloc (.map #[] 0)) w.heap.size ek evv [] := ⟨#[], 0, heap_alloc_new w _, rfl, by simp, by simp⟩
theorem MapAt.fr {F : Nat → Prop} (h : MapAt w r ek evv l) (e : Fr F w w') (hr : ¬ F r) : MapAt w' r ek evv l := by
  obtain ⟨es, c, h1, h2⟩ := h; exact ⟨es, c, e.heap h1 hr, h2⟩
theorem MapAt.ext (h : MapAt w r ek evv l) (e : Ext w w') : MapAt w' r ek evv l := by
  obtain ⟨es, c, h1, h2⟩ := h; exact ⟨es, c, (e.2 r (Array.getElem?_eq_some_iff.1 h1).1).trans h1, h2⟩
theorem MapAt.lt (h : MapAt w r ek evv l) : r < w.heap.size := by
  obtain ⟨es, c, h1, h2⟩ := h; exact (Array.getElem?_eq_some_iff.1 h1).1

/-- Where a key stands. -/
def pos {K V : Type} [DecidableEq K] : List (K × V) → K → Nat → Option (Nat × V)
  | [], _, _ => none
  | (k', v) :: l, k, i => if k = k' then some (i, v) else pos l k (i + 1)
theorem pos_lk (l : List (K × V)) (k : K) (i : Nat) : (pos l k i).map (·.2) = lk l k := by
  induction l generalizing i with
  | nil => rfl
  | cons p l ih => obtain ⟨a, b⟩ := p; unfold pos lk; split <;> simp_all
theorem run_findKey (hk : Keys P kt ek) (k : K) {es : List MapEntry} (he : es.map (fun e => (e.key, e.val)) = l.map (fun p => (ek p.1, evv p.2))) (u : World) :
    (Instr.findKey kt (ek k) es).run P u = .ok ((pos l k 0).map fun p => (p.1, evv p.2)) u := by
  obtain ⟨d, hd, hn⟩ := hk.desc
  have ask : ∀ (es : List MapEntry) (l : List (K × V)) (i : Nat), es.map (fun e => (e.key, e.val)) = l.map (fun p => (ek p.1, evv p.2)) →
      (Instr.findAsking kt (ek k) es i).run P u = .ok ((pos l k i).map fun p => (p.1, evv p.2)) u := by
    intro es
    induction es with
    | nil => intro l i h; cases l <;> simp at h; rfl
    | cons e es ih =>
      intro l i h
      cases l with
      | nil => simp at h
      | cons p l =>
        simp only [List.map_cons, List.cons.injEq, Prod.mk.injEq] at h
        obtain ⟨⟨h1, h2⟩, h3⟩ := h
        unfold Instr.findAsking pos
        simp only [h1, Sem.run_bind, hk.eq, Result.andThen_ok]
        by_cases hkk : k = p.1
        · simp [hkk, h2]
        · simp only [hkk, decide_false, Bool.false_eq_true, if_false]; exact ih l (i + 1) h3
  unfold Instr.findKey
  simp only [Sem.run_bind, run_underlying hd, Result.andThen_ok]
  rcases hn with hn | hn
  · have now : ∀ (es : List MapEntry) (l : List (K × V)) (i : Nat), es.map (fun e => (e.key, e.val)) = l.map (fun p => (ek p.1, evv p.2)) →
        Instr.findNow d (ek k) es i = some ((pos l k i).map fun p => (p.1, evv p.2)) := by
      intro es
      induction es with
      | nil => intro l i h; cases l <;> simp at h; rfl
      | cons e es ih =>
        intro l i h
        cases l with
        | nil => simp at h
        | cons p l =>
          simp only [List.map_cons, List.cons.injEq, Prod.mk.injEq] at h
          obtain ⟨⟨h1, h2⟩, h3⟩ := h
          unfold Instr.findNow pos
          simp only [h1, hn]
          by_cases hkk : k = p.1
          · simp [hkk, h2]
          · simp only [hkk, decide_false, if_false]; exact ih l (i + 1) h3
    rw [now es l 0 he]; rfl
  · cases es with
    | nil => cases l <;> simp at he; rfl
    | cons e es =>
      cases l with
      | nil => simp at he
      | cons p l =>
        have h1 : e.key = ek p.1 := by simp only [List.map_cons, List.cons.injEq, Prod.mk.injEq] at he; exact he.1.1
        have : Instr.findNow d (ek k) (e :: es) 0 = none := by unfold Instr.findNow; rw [h1, hn]
        rw [this]; exact ask _ _ 0 he

theorem run_lookup {z : Value} (hk : Keys P kt ek) (hm : P.underlying mt = some (.map kt vt)) (hz : Zr P vt z) (h : MapAt w r ek evv l) (k : K) :
    Rd P w (Instr.lookup mt (.map (some r)) (ek k) false) (((lk l k).map evv).getD z) := by
  intro u hu
  obtain ⟨es, c, h1, h2, _⟩ := h.ext hu
  unfold Instr.lookup
  simp only [Sem.run_bind, run_underlying hm, Result.andThen_ok]
  have hg : (getObj r).run P u = .ok (.map es c) u := by simp only [getObj, Sem.run, h1]
  simp only [hg, Result.andThen_ok, Sem.run_bind, Sem.run_pure, hk.chk, run_findKey hk k h2]
  rw [← pos_lk l k 0]
  cases pos l k 0 with
  | none => simp [run_zeroValue hz]
  | some p => simp
theorem run_lookupOk {z : Value} (hk : Keys P kt ek) (hm : P.underlying mt = some (.map kt vt)) (hz : Zr P vt z) (h : MapAt w r ek evv l) (k : K) :
    Rd P w (Instr.lookup mt (.map (some r)) (ek k) true) (.tuple #[((lk l k).map evv).getD z, .bool (lk l k).isSome]) := by
  intro u hu
  obtain ⟨es, c, h1, h2, _⟩ := h.ext hu
  unfold Instr.lookup
  simp only [Sem.run_bind, run_underlying hm, Result.andThen_ok]
  have hg : (getObj r).run P u = .ok (.map es c) u := by simp only [getObj, Sem.run, h1]
  simp only [hg, Result.andThen_ok, Sem.run_bind, Sem.run_pure, hk.chk, run_findKey hk k h2]
  rw [← pos_lk l k 0]
  cases pos l k 0 with
  | none => simp [run_zeroValue hz]
  | some p => simp
theorem run_lenMap {ty : TypeId} (hm : P.underlying mt = some (.map kt vt)) (h : MapAt w r ek evv l) : Rd P w (Builtin.len_ #[mt] ty #[.map (some r)]) (.int .i64 l.length) := by
  intro u hu
  obtain ⟨es, c, h1, h2, _⟩ := h.ext hu
  have hg : (getObj r).run P u = .ok (.map es c) u := by simp only [getObj, Sem.run, h1]
  have hl : es.size = l.length := by have := congrArg List.length h2; simpa using this
  simp [Builtin.len_, run_underlying hm, hg, goInt, hl]

theorem map_setIf {w : World} {r : Nat} {o : Obj} (hr : r < w.heap.size) : ({ w with heap := w.heap.setIfInBounds r o } : World).heap[r]? = some o := by
  simp [hr]
theorem fr_setIf {w : World} {r : Nat} {o : Obj} {F : Nat → Prop} (hF : F r) : Fr F w { w with heap := w.heap.setIfInBounds r o } :=
  ⟨rfl, rfl, rfl, by simp, fun b hb hf => by
    have : r ≠ b := fun e => hf (e ▸ hF)
    simp [Array.getElem?_setIfInBounds_ne this]⟩
theorem pos_ins_some {l : List (K × V)} {k : K} {j : Nat} {x : V} {i : Nat} (h : pos l k i = some (j, x)) (v : V) : i ≤ j ∧ (∃ hj : j - i < l.length, l[j - i].1 = k) ∧ ins l k v = l.modify (j - i) (fun p => (p.1, v)) := by
  induction l generalizing i with
  | nil => cases h
  | cons p l ih =>
    obtain ⟨a, b⟩ := p
    unfold pos at h
    unfold ins
    by_cases hk : k = a
    · rw [if_pos hk] at h ⊢; cases h; subst hk; simp
    · rw [if_neg hk] at h ⊢
      obtain ⟨h1, ⟨h2, h3⟩, h4⟩ := ih h
      refine ⟨by omega, ?_, ?_⟩
      · have e : j - i = (j - (i + 1)) + 1 := by omega
        refine ⟨by simp; omega, ?_⟩
        simp only [e, List.getElem_cons_succ]; exact h3
      · rw [h4, show j - i = (j - (i + 1)) + 1 from by omega]; simp
theorem pos_none_ins {l : List (K × V)} {k : K} {i : Nat} (h : pos l k i = none) (v : V) : ins l k v = l ++ [(k, v)] := by
  induction l generalizing i with
  | nil => rfl
  | cons p l ih =>
    obtain ⟨a, b⟩ := p
    unfold pos at h
    unfold ins
    by_cases hk : k = a
    · rw [if_pos hk] at h; cases h
    · rw [if_neg hk] at h ⊢; rw [ih h]; rfl

theorem run_mapUpdate (hk : Keys P kt ek) (hm : P.underlying mt = some (.map kt vt)) (h : MapAt w r ek evv l) (k : K) (v : V) :
    ∃ w1, (Instr.mapUpdate mt (.map (some r)) (ek k) (evv v)).run P w = .ok () w1 ∧ MapAt w1 r ek evv (ins l k v) ∧ Fr (fun b => b = r) w w1 := by
  have hlt := h.lt
  obtain ⟨es, c, h1, h2, h3, h4⟩ := h
  have hg : (getObj r).run P w = .ok (.map es c) w := by simp only [getObj, Sem.run, h1]
  have hset : ∀ o, (setObj r o).run P w = .ok () { w with heap := w.heap.setIfInBounds r o } := by intro o; simp only [setObj, Sem.run, h1]
  cases hp : pos l k 0 with
  | none =>
    refine ⟨{ w with heap := w.heap.setIfInBounds r (.map (es.push { key := ek k, val := evv v, born := c }) (c + 1)) }, ?_, ⟨_, _, map_setIf hlt, ?_, ?_, ?_⟩, fr_setIf rfl⟩
    · unfold Instr.mapUpdate
      simp only [Sem.run_bind, run_underlying hm, Result.andThen_ok, hg, hk.chk, run_findKey hk k h2, hp, Option.map_none, hset]
    · rw [pos_none_ins hp]; simp [h2]
    · simp only [Array.toList_push, List.map_append, List.map_cons, List.map_nil]
      rw [List.nodup_append]
      refine ⟨h3, by simp, fun a ha b hb => ?_⟩
      simp only [List.mem_singleton] at hb
      obtain ⟨e, he, rfl⟩ := List.mem_map.1 ha
      have := h4 e he; omega
    · intro e he
      simp only [Array.toList_push, List.mem_append, List.mem_singleton] at he
      rcases he with he | rfl
      · have := h4 e he; omega
      · simp
  | some p =>
    obtain ⟨j, x⟩ := p
    obtain ⟨_, ⟨hj, hjk⟩, hins⟩ := pos_ins_some hp v
    simp only [Nat.sub_zero] at hj hjk hins
    have hsz : es.size = l.length := by have := congrArg List.length h2; simpa using this
    have hje : j < es.size := by omega
    have hkey : es[j].key = ek k := by
      have := congrArg (fun q => q[j]?) h2
      simp only [List.getElem?_map, Array.getElem?_toList, Array.getElem?_eq_getElem hje, Option.map_some, List.getElem?_eq_getElem hj, Option.some.injEq, Prod.mk.injEq] at this
      rw [this.1, hjk]
    have hstay : (Instr.keyThatStays (((es[j]?).map (·.key)).getD (ek k)) (ek k)).run P w = .ok (ek k) w := by
      rw [Array.getElem?_eq_getElem hje]; simp only [Option.map_some, Option.getD_some, hkey]
      simp [Instr.keyThatStays, hk.bits]
    refine ⟨{ w with heap := w.heap.setIfInBounds r (.map (es.modify j fun e => { e with key := ek k, val := evv v }) c) }, ?_, ⟨_, _, map_setIf hlt, ?_, ?_, ?_⟩, fr_setIf rfl⟩
    · unfold Instr.mapUpdate
      simp only [Sem.run_bind, run_underlying hm, Result.andThen_ok, hg, hk.chk, run_findKey hk k h2, hp, Option.map_some, hstay, hset]
    · rw [hins]
      apply List.ext_getElem?
      intro m
      simp only [Array.toList_modify, List.getElem?_map, List.getElem?_modify]
      have h2m := congrArg (fun q => q[m]?) h2
      simp only [List.getElem?_map] at h2m
      by_cases hmj : j = m
      · subst hmj
        have he : es.toList[j]? = some es[j] := by simp [hje]
        have hl' : l[j]? = some l[j] := List.getElem?_eq_getElem hj
        simp only [he, hl', if_true, Option.map_eq_map, Option.map_some, hjk]
      · simp only [if_neg hmj]; simpa using h2m
    · have : (es.modify j fun e => { e with key := ek k, val := evv v }).toList.map (·.born) = es.toList.map (·.born) := by
        apply List.ext_getElem?
        intro m
        simp only [Array.toList_modify, List.getElem?_map, List.getElem?_modify]
        by_cases hmj : j = m
        · subst hmj; cases es.toList[j]? <;> simp
        · simp only [if_neg hmj]; cases es.toList[m]? <;> rfl
      rw [this]; exact h3
    · intro e he
      simp only [Array.toList_modify] at he
      obtain ⟨m, hm⟩ := List.mem_iff_getElem?.1 he
      rw [List.getElem?_modify] at hm
      cases hem : es.toList[m]? with
      | none => rw [hem] at hm; simp at hm
      | some e' =>
        rw [hem] at hm
        have := h4 e' (List.mem_iff_getElem?.2 ⟨m, hem⟩)
        by_cases hmj : j = m
        · simp [hmj] at hm; rw [← hm]; exact this
        · simp [hmj] at hm; rw [← hm]; exact this
end

/-! ### Keys -/
def chkV (P : Program) : Nat → TypeId → Value → Bool
  | 0, _, _ => false
  | d + 1, t, v => match P.underlying t, v with
    | some (.struct fs), .agg cs => fs.toList.all fun f => match partV P f.type cs f.offset with | some x => chkV P d f.type x | none => false
    | some (.int _), .int _ _ | some .string, .string _ | some .bool, .bool _ => true
    | _, _ => false
theorem run_chkV {P : Program} : ∀ (d : Nat) (t : TypeId) (v : Value), chkV P d t v = true → ∀ e m u, (Instr.checkKey e (d + m) t v).run P u = .ok () u
  | 0, _, _, h, _, _, _ => by cases h
  | d + 1, t, v, h, e, m, u => by
    rw [Nat.add_right_comm]
    unfold chkV at h
    split at h
    · rename_i fs cs hd
      unfold Instr.checkKey
      simp only [Sem.run_bind, run_underlying hd, Result.andThen_ok]
      rw [← Array.forIn_toList]
      have key : ∀ (l : List Field), (∀ f ∈ l, (match partV P f.type cs f.offset with | some x => chkV P d f.type x | none => false) = true) → ∀ (g : Field → PUnit → Sem (ForInStep PUnit)),
          (∀ f s, g f s = (if f.name ≠ "_" then do
              let x ← part f.type cs f.offset
              Instr.checkKey e (d + m) f.type x
              pure (ForInStep.yield PUnit.unit)
            else pure (ForInStep.yield PUnit.unit) : Sem (ForInStep PUnit))) → ∀ u, (forIn l PUnit.unit g).run P u = .ok PUnit.unit u := by
        intro l
        induction l with
        | nil => intro _ g hg u; rfl
        | cons f l ih =>
          intro hl g hg u
          have hf := hl f (List.mem_cons_self ..)
          split at hf
          case h_2 => cases hf
          case h_1 x hx =>
          simp only [List.forIn_cons, Sem.run_bind, hg]
          split
          · simp only [Sem.run_bind, run_partV hx, Result.andThen_ok, run_chkV d _ _ hf e m, Sem.run_pure]
            exact ih (fun f hf => hl f (List.mem_cons_of_mem _ hf)) g hg u
          · simp only [Sem.run_pure, Result.andThen_ok]
            exact ih (fun f hf => hl f (List.mem_cons_of_mem _ hf)) g hg u
      rw [key fs.toList (fun f hf => List.all_eq_true.1 h f hf) _ (fun f s => rfl) u]
      rfl
    · rename_i hd; simp [Instr.checkKey, run_underlying hd]
    · rename_i hd; simp [Instr.checkKey, run_underlying hd]
    · rename_i hd; simp [Instr.checkKey, run_underlying hd]
    · cases h
theorem beq_dec {α : Type} [DecidableEq α] [BEq α] [LawfulBEq α] (a b : α) : (a == b) = decide (a = b) := Bool.eq_iff_iff.2 (by simp)
theorem bits_int (n : Nat) (k : IntKind) (a : Int) : Instr.sameBits n (.int k a) (.int k a) = true := by cases n <;> simp [Instr.sameBits]
theorem bits_str (n : Nat) (a : ByteArray) : Instr.sameBits n (.string a) (.string a) = true := by cases n <;> simp [Instr.sameBits, beq_bytes]
theorem bits_bool (n : Nat) (a : Bool) : Instr.sameBits n (.bool a) (.bool a) = true := by cases n <;> simp [Instr.sameBits]
theorem bits_agg (l : List Value) (h : ∀ v ∈ l, ∀ n, Instr.sameBits n v v = true) : Instr.sameBits 10000 (.agg l.toArray) (.agg l.toArray) = true := by
  have : ∀ n, Instr.sameBits (n + 1) (.agg l.toArray) (.agg l.toArray) = true := by
    intro n
    unfold Instr.sameBits
    simp only [beq_self_eq_true, Bool.true_and, List.all_eq_true]
    intro p hp
    obtain ⟨x, y⟩ := p
    have h1 := List.of_mem_zip hp
    have : x = y := by
      obtain ⟨m, hm⟩ := List.mem_iff_getElem?.1 hp
      rw [List.getElem?_zip_eq_some] at hm
      have := hm.1.symm.trans hm.2; simpa using this
    subst this
    exact h x (by simpa using h1.1) n
  exact this 9999
theorem keys_int {P : Program} {kt : TypeId} (hd : P.underlying kt = some (.int .i64)) : Keys P kt (fun k : Int => .int .i64 k) where
  chk e k u := run_chkV 1 kt (.int .i64 k) (by simp [chkV, hd]) e 9999 u
  eq k k' u := run_equal (d := 1) (by simp only [eqV, hd, if_true, beq_dec]) (by decide) u
  desc := ⟨_, hd, .inl fun k k' => by simp only [Instr.sameNow, if_true, beq_dec]⟩
  bits k := bits_int _ _ _
theorem keys_str {P : Program} {kt : TypeId} (hd : P.underlying kt = some .string) : Keys P kt (fun k : Str => .string (mkS k)) where
  chk e k u := run_chkV 1 kt (.string (mkS k)) (by simp [chkV, hd]) e 9999 u
  eq k k' u := run_equal (d := 1) (by simp only [eqV, hd, data_mkS, beq_dec]) (by decide) u
  desc := ⟨_, hd, .inl fun k k' => by simp only [Instr.sameNow, beq_bytes, data_mkS, beq_dec]⟩
  bits k := bits_str _ _
/-- Keys that are structs. -/
theorem keys_of {P : Program} {kt : TypeId} {K : Type} [DecidableEq K] {ek : K → Value} {fs : Array Field} (hd : P.underlying kt = some (.struct fs)) (hc : ∀ k, chkV P 4 kt (ek k) = true) (ha : ∀ k, ∃ cs, ek k = .agg cs)
    (he : ∀ k k', eqV P 4 kt (ek k) (ek k') = some (decide (k = k'))) (hb : ∀ k, Instr.sameBits 10000 (ek k) (ek k) = true) : Keys P kt ek where
  chk e k u := run_chkV 4 kt (ek k) (hc k) e 9996 u
  eq k k' u := run_equal (he k k') (by decide) u
  desc := ⟨_, hd, .inr fun k k' => by obtain ⟨cs, h1⟩ := ha k; obtain ⟨cs', h2⟩ := ha k'; rw [h1, h2]; rfl⟩
  bits := hb
end Go.V
