/- Texts of messages: how values and trees are written, and how texts are read; what is written is read as the same. -/
import Derived.Test.YthpeengmcjpknaaGreatDoorPVR
import Derived.Lib.FieldsP
import Derived.Lib.MapLaws
import Derived.Lib.TrimUEq
import Derived.Lib.Split
import Derived.Lib.SplitLaws
set_option linter.unusedSimpArgs false
set_option linter.unusedVariables false
namespace Go.V
open Go.RowKit
structure Dm where
  f : UInt8
  c : UInt8
  r : UInt8
  e : UInt8
  s : UInt8
def mayU (b : UInt8) : Bool := !(decide (b < 33) || (decide (126 < b) || ((decide (97 ≤ b) && decide (b ≤ 122)) || ((decide (65 ≤ b) && decide (b ≤ 90)) || (decide (48 ≤ b) && decide (b ≤ 57))))))
structure OkD (d : Dm) : Prop where
  mf : mayU d.f = true
  mc : mayU d.c = true
  mr : mayU d.r = true
  me : mayU d.e = true
  ms : mayU d.s = true
  fc : d.f ≠ d.c
  fr : d.f ≠ d.r
  fe : d.f ≠ d.e
  fs : d.f ≠ d.s
  cr : d.c ≠ d.r
  ce : d.c ≠ d.e
  cs : d.c ≠ d.s
  re : d.r ≠ d.e
  rs : d.r ≠ d.s
  es : d.e ≠ d.s
def letterP (d : Dm) (b : UInt8) : UInt8 := if b = d.f then 70 else if b = d.c then 83 else if b = d.s then 84 else if b = d.r then 82 else if b = d.e then 69 else 0
def signP (d : Dm) (w : Str) : UInt8 := if w = [70] then d.f else if w = [83] then d.c else if w = [84] then d.s else if w = [82] then d.r else if w = [69] then d.e else 0
def hexU (n : UInt8) : UInt8 := if n < 10 then 48 + n else 55 + n
def escB (d : Dm) (b : UInt8) : Str := if letterP d b ≠ 0 then [d.e, letterP d b, d.e] else if b < 32 ∨ 126 < b then [d.e, 88, hexU (b >>> 4), hexU (b &&& 15), d.e] else [b]
def escW (d : Dm) (v : Str) : Str := v.flatMap (escB d)
def nibP (c : UInt8) : Option UInt8 := if 48 ≤ c ∧ c ≤ 57 then some (c - 48) else if 97 ≤ c ∧ c ≤ 102 then some (c - 97 + 10) else if 65 ≤ c ∧ c ≤ 70 then some (c - 65 + 10) else none
def unhexP : Str → Option Str
  | [] => some []
  | [_] => none
  | a :: b :: r => match nibP a, nibP b with
    | some x, some y => (unhexP r).map ((x <<< 4 ||| y) :: ·)
    | _, _ => none
def meantP (d : Dm) (w : Str) : Option Str := if signP d w ≠ 0 then some [signP d w] else match w with
  | 88 :: h => (match unhexP h with
    | some (b :: r) => some (b :: r)
    | _ => none)
  | _ => none
def cutE (e : UInt8) : Str → Option (Str × Str)
  | [] => none
  | b :: r => if b = e then some ([], r) else (cutE e r).map fun x => (b :: x.1, x.2)
def readF (d : Dm) : Nat → Str → Str
  | 0, s => s
  | _ + 1, [] => []
  | n + 1, b :: r => if b = d.e then (match cutE d.e r with
      | some (w, x) => (match meantP d w with
        | some m => m ++ readF d n x
        | none => b :: readF d n r)
      | none => b :: readF d n r) else b :: readF d n r
def readP (d : Dm) (s : Str) : Str := readF d s.length s
theorem cutE_len {e : UInt8} : ∀ {s w x : Str}, cutE e s = some (w, x) → s = w ++ e :: x ∧ e ∉ w
  | [], w, x, h => by simp [cutE] at h
  | b :: r, w, x, h => by
    unfold cutE at h
    split at h
    · rename_i hb; simp at h; obtain ⟨rfl, rfl⟩ := h; subst hb; simp
    · rename_i hb
      cases hr : cutE e r with
      | none => rw [hr] at h; cases h
      | some y =>
        obtain ⟨w', x'⟩ := y
        rw [hr] at h
        simp at h
        obtain ⟨rfl, rfl⟩ := h
        obtain ⟨h1, h2⟩ := cutE_len hr
        exact ⟨by rw [h1]; rfl, by simp; exact ⟨fun e => hb e.symm, h2⟩⟩
theorem cutE_app {e : UInt8} : ∀ {w : Str} (x : Str), e ∉ w → cutE e (w ++ e :: x) = some (w, x)
  | [], x, _ => by simp [cutE]
  | b :: w, x, h => by
    simp at h
    show (if b = e then some ([], w ++ e :: x) else (cutE e (w ++ e :: x)).map fun x => (b :: x.1, x.2)) = _
    rw [if_neg (fun e => h.1 e.symm), cutE_app x h.2]; rfl
theorem readF_fuel (d : Dm) : ∀ (k : Nat) (s : Str), s.length ≤ k → ∀ n m, s.length ≤ n → s.length ≤ m → readF d n s = readF d m s
  | k, [], _, n, m, _, _ => by cases n <;> cases m <;> rfl
  | 0, b :: r, h, _, _, _, _ => by simp at h
  | k + 1, b :: r, hk, n, m, hn, hm => by
    simp only [List.length_cons] at hk hn hm
    obtain ⟨n, rfl⟩ : ∃ n', n = n' + 1 := ⟨n - 1, by omega⟩
    obtain ⟨m, rfl⟩ : ∃ n', m = n' + 1 := ⟨m - 1, by omega⟩
    have ih := readF_fuel d k r (by omega) n m (by omega) (by omega)
    unfold readF
    rw [ih]
    split
    · cases hc : cutE d.e r with
      | none => rfl
      | some y =>
        obtain ⟨w, x⟩ := y
        obtain ⟨h1, _⟩ := cutE_len hc
        have hx : x.length + w.length + 1 = r.length := by rw [h1]; simp; omega
        simp only
        rw [readF_fuel d k x (by omega) n m (by omega) (by omega)]
    · rfl
theorem readP_plain {d : Dm} {b : UInt8} (h : b ≠ d.e) (r : Str) : readP d (b :: r) = b :: readP d r := by
  unfold readP
  show (if b = d.e then _ else b :: readF d r.length r) = _
  rw [if_neg h]
theorem readP_esc {d : Dm} {w x m : Str} (hw : d.e ∉ w) (hm : meantP d w = some m) : readP d (d.e :: (w ++ d.e :: x)) = m ++ readP d x := by
  unfold readP
  have h1 : readF d (d.e :: (w ++ d.e :: x)).length (d.e :: (w ++ d.e :: x)) = (if d.e = d.e then (match cutE d.e (w ++ d.e :: x) with
      | some (w', x') => (match meantP d w' with
        | some m => m ++ readF d (w ++ d.e :: x).length x'
        | none => d.e :: readF d (w ++ d.e :: x).length (w ++ d.e :: x))
      | none => d.e :: readF d (w ++ d.e :: x).length (w ++ d.e :: x)) else d.e :: readF d (w ++ d.e :: x).length (w ++ d.e :: x)) := rfl
  rw [h1, if_pos rfl, cutE_app x hw]
  simp only
  have : readF d (w ++ d.e :: x).length x = readF d x.length x := readF_fuel d _ x (Nat.le_refl _) _ _ (by simp; omega) (Nat.le_refl _)
  rw [hm]
  simp only
  rw [this]
theorem all_u8 {p : UInt8 → Prop} (h : ∀ n, n < 256 → p (UInt8.ofNat n)) (b : UInt8) : p b := by
  have := h b.toNat b.toNat_lt
  rwa [UInt8.ofNat_toNat] at this
theorem hex_back (b : UInt8) : unhexP [hexU (b >>> 4), hexU (b &&& 15)] = some [b] := by
  revert b
  apply all_u8
  decide +kernel
theorem may_letter (b : UInt8) (h : mayU b = true) : b ≠ 70 ∧ b ≠ 83 ∧ b ≠ 84 ∧ b ≠ 82 ∧ b ≠ 69 ∧ b ≠ 88 ∧ b ≠ 0 ∧ b ≠ 13 ∧ b ≠ 10 := by
  revert b
  apply all_u8
  decide +kernel
theorem hex_may (b : UInt8) : mayU (hexU (b >>> 4)) = false ∧ mayU (hexU (b &&& 15)) = false := by
  revert b
  apply all_u8
  decide +kernel
theorem letter_may (d : Dm) (b : UInt8) (h : letterP d b ≠ 0) : mayU (letterP d b) = false ∧ letterP d b ≠ 13 ∧ letterP d b ≠ 10 := by
  unfold letterP at *
  split <;> try (split <;> try (split <;> try (split <;> try split)))
  all_goals first | (exact ⟨by decide, by decide, by decide⟩) | (simp_all)
theorem hex_eol (b : UInt8) : (hexU (b >>> 4) ≠ 13 ∧ hexU (b >>> 4) ≠ 10) ∧ (hexU (b &&& 15) ≠ 13 ∧ hexU (b &&& 15) ≠ 10) := by
  revert b
  apply all_u8
  decide +kernel
theorem letter_sign {d : Dm} (h : OkD d) {b : UInt8} (hb : letterP d b ≠ 0) : signP d [letterP d b] = b := by
  unfold letterP at *
  unfold signP
  split
  · simp_all
  · split
    · simp_all
    · split
      · simp_all
      · split
        · simp_all
        · split <;> simp_all
theorem sign_hex (d : Dm) (w : Str) : signP d (88 :: w) = 0 := by simp [signP]
theorem read_escB {d : Dm} (h : OkD d) (b : UInt8) (x : Str) : readP d (escB d b ++ x) = b :: readP d x := by
  unfold escB
  by_cases hl : letterP d b ≠ 0
  · rw [if_pos hl]
    have hs := letter_sign h hl
    have hne : d.e ∉ [letterP d b] := by
      intro e
      simp at e
      have := (letter_may d b hl).1
      rw [← e, h.me] at this; cases this
    have hb0 : b ≠ 0 := by
      intro e; subst e
      unfold letterP at hl
      have m1 := (may_letter _ h.mf).2.2.2.2.2.2.1
      have m2 := (may_letter _ h.mc).2.2.2.2.2.2.1
      have m3 := (may_letter _ h.ms).2.2.2.2.2.2.1
      have m4 := (may_letter _ h.mr).2.2.2.2.2.2.1
      have m5 := (may_letter _ h.me).2.2.2.2.2.2.1
      rw [if_neg (fun e => m1 e.symm), if_neg (fun e => m2 e.symm), if_neg (fun e => m3 e.symm), if_neg (fun e => m4 e.symm), if_neg (fun e => m5 e.symm)] at hl
      exact hl rfl
    have := readP_esc (d := d) (w := [letterP d b]) (x := x) (m := [b]) hne (by unfold meantP; rw [hs, if_pos hb0])
    exact this
  · rw [if_neg hl]
    by_cases hh : b < 32 ∨ 126 < b
    · rw [if_pos hh]
      have hm := hex_may b
      have hne : d.e ∉ [88, hexU (b >>> 4), hexU (b &&& 15)] := by
        intro e
        simp at e
        rcases e with e | e | e
        · exact (may_letter _ h.me).2.2.2.2.2.1 e
        · rw [← e, h.me] at hm; exact absurd hm.1 (by simp)
        · rw [← e, h.me] at hm; exact absurd hm.2 (by simp)
      exact readP_esc (d := d) (w := [88, hexU (b >>> 4), hexU (b &&& 15)]) (x := x) (m := [b]) hne (by unfold meantP; rw [sign_hex]; simp [hex_back])
    · rw [if_neg hh]
      have hbe : b ≠ d.e := by
        intro e; subst e
        apply hl
        unfold letterP
        rw [if_neg h.fe.symm, if_neg h.ce.symm, if_neg h.es, if_neg h.re.symm, if_pos rfl]; decide
      exact readP_plain hbe x
theorem read_esc {d : Dm} (h : OkD d) : ∀ v : Str, readP d (escW d v) = v
  | [] => rfl
  | b :: v => by
    have : escW d (b :: v) = escB d b ++ escW d v := by simp [escW]
    rw [this, read_escB h, read_esc h v]
theorem esc_free {d : Dm} (h : OkD d) (v : Str) : ∀ b ∈ escW d v, b ≠ d.f ∧ b ≠ d.c ∧ b ≠ d.r ∧ b ≠ d.s ∧ b ≠ 13 ∧ b ≠ 10 := by
  intro x hx
  unfold escW at hx
  obtain ⟨b, _, hx⟩ := List.mem_flatMap.1 hx
  have me := may_letter _ h.me
  have hesc : d.e ≠ d.f ∧ d.e ≠ d.c ∧ d.e ≠ d.r ∧ d.e ≠ d.s ∧ d.e ≠ 13 ∧ d.e ≠ 10 := ⟨h.fe.symm, h.ce.symm, h.re.symm, h.es, me.2.2.2.2.2.2.2.1, me.2.2.2.2.2.2.2.2⟩
  have hno : ∀ y : UInt8, mayU y = false → y ≠ 13 → y ≠ 10 → y ≠ d.f ∧ y ≠ d.c ∧ y ≠ d.r ∧ y ≠ d.s ∧ y ≠ 13 ∧ y ≠ 10 := by
    intro y hy h1 h2
    refine ⟨?_, ?_, ?_, ?_, h1, h2⟩
    · rintro rfl; rw [h.mf] at hy; cases hy
    · rintro rfl; rw [h.mc] at hy; cases hy
    · rintro rfl; rw [h.mr] at hy; cases hy
    · rintro rfl; rw [h.ms] at hy; cases hy
  unfold escB at hx
  split at hx
  · rename_i hl
    obtain ⟨l1, l2, l3⟩ := letter_may d b hl
    simp at hx
    rcases hx with rfl | rfl | rfl
    · exact hesc
    · exact hno _ l1 l2 l3
    · exact hesc
  · rename_i hl
    split at hx
    · have hm := hex_may b
      have he := hex_eol b
      simp at hx
      rcases hx with rfl | rfl | rfl | rfl | rfl
      · exact hesc
      · exact hno _ (by decide) (by decide) (by decide)
      · exact hno _ hm.1 he.1.1 he.1.2
      · exact hno _ hm.2 he.2.1 he.2.2
      · exact hesc
    · rename_i hh
      simp at hx
      subst hx
      have hl0 : letterP d x = 0 := by simpa using hl
      refine ⟨?_, ?_, ?_, ?_, ?_, ?_⟩
      · intro e; rw [e] at hl0; simp [letterP] at hl0
      · intro e; rw [e] at hl0; unfold letterP at hl0; rw [if_neg h.fc.symm, if_pos rfl] at hl0; exact absurd hl0 (by decide)
      · intro e; rw [e] at hl0; unfold letterP at hl0; rw [if_neg h.fr.symm, if_neg h.cr.symm, if_neg h.rs, if_pos rfl] at hl0; exact absurd hl0 (by decide)
      · intro e; rw [e] at hl0; unfold letterP at hl0; rw [if_neg h.fs.symm, if_neg h.cs.symm, if_pos rfl] at hl0; exact absurd hl0 (by decide)
      · intro e; apply hh; left; rw [e]; decide
      · intro e; apply hh; left; rw [e]; decide
def joinP (sep : UInt8) : List Str → Str
  | [] => []
  | [x] => x
  | x :: y :: l => x ++ sep :: joinP sep (y :: l)
def splitP (sep : UInt8) : Str → List Str
  | [] => [[]]
  | b :: r => if b = sep then [] :: splitP sep r else match splitP sep r with
    | x :: l => (b :: x) :: l
    | [] => [[b]]
theorem splitP_ne (sep : UInt8) : ∀ s, splitP sep s ≠ []
  | [] => by simp [splitP]
  | b :: r => by
    unfold splitP
    split
    · simp
    · split <;> simp
theorem splitP_free {sep : UInt8} : ∀ {s : Str}, sep ∉ s → splitP sep s = [s]
  | [], _ => rfl
  | b :: r, h => by
    simp at h
    unfold splitP
    rw [if_neg (fun e => h.1 e.symm), splitP_free h.2]
theorem splitP_app {sep : UInt8} : ∀ {x : Str} (r : Str), sep ∉ x → splitP sep (x ++ sep :: r) = x :: splitP sep r
  | [], r, _ => by simp [splitP]
  | b :: x, r, h => by
    simp at h
    show (if b = sep then [] :: splitP sep (x ++ sep :: r) else match splitP sep (x ++ sep :: r) with
      | x :: l => (b :: x) :: l
      | [] => [[b]]) = _
    rw [if_neg (fun e => h.1 e.symm), splitP_app r h.2]
theorem split_join {sep : UInt8} : ∀ {l : List Str}, l ≠ [] → (∀ x ∈ l, sep ∉ x) → splitP sep (joinP sep l) = l
  | [], h, _ => absurd rfl h
  | [x], _, h => splitP_free (h x (by simp))
  | x :: y :: l, _, h => by
    show splitP sep (x ++ sep :: joinP sep (y :: l)) = _
    rw [splitP_app _ (h x (by simp)), split_join (by simp) (fun z hz => h z (by simp at hz ⊢; right; exact hz))]
theorem join_mem {sep b : UInt8} : ∀ {l : List Str}, b ∈ joinP sep l → b = sep ∨ ∃ x ∈ l, b ∈ x
  | [], h => by simp [joinP] at h
  | [x], h => .inr ⟨x, by simp, h⟩
  | x :: y :: l, h => by
    have h : b ∈ x ++ sep :: joinP sep (y :: l) := h
    rcases List.mem_append.1 h with h | h
    · exact .inr ⟨x, by simp, h⟩
    · rcases List.mem_cons.1 h with h | h
      · exact .inl h
      · rcases join_mem h with h | ⟨z, hz, hb⟩
        · exact .inl h
        · exact .inr ⟨z, by simp at hz ⊢; right; exact hz, hb⟩
def prC (d : Dm) (c : Cmp) : Str := joinP d.s (c.map (escW d))
def prR (d : Dm) (r : Rept) : Str := joinP d.c (r.map (prC d))
def prF (d : Dm) (f : Fldt) : Str := joinP d.r (f.map (prR d))
def cutP {α : Type} (sep : UInt8) (g : Str → α) (s : Str) : List α := if 50 < (splitP sep s).length then [] else (splitP sep s).map g
def badP (sep : UInt8) (b : Str → Bool) (s : Str) : Bool := if 50 < (splitP sep s).length then true else (splitP sep s).any b
def rdC (d : Dm) : Str → Cmp := cutP d.s (readP d)
def rdR (d : Dm) : Str → Rept := cutP d.c (rdC d)
def rdF (d : Dm) : Str → Fldt := cutP d.r (rdR d)
def bdC (d : Dm) : Str → Bool := badP d.s (fun _ => false)
def bdR (d : Dm) : Str → Bool := badP d.c (bdC d)
def bdF (d : Dm) : Str → Bool := badP d.r (bdR d)
theorem prC_free {d : Dm} (h : OkD d) (c : Cmp) : ∀ b ∈ prC d c, b ≠ d.f ∧ b ≠ d.c ∧ b ≠ d.r ∧ b ≠ 13 ∧ b ≠ 10 := by
  intro b hb
  have ms := may_letter _ h.ms
  rcases join_mem hb with rfl | ⟨x, hx, hb⟩
  · exact ⟨h.fs.symm, h.cs.symm, h.rs.symm, ms.2.2.2.2.2.2.2.1, ms.2.2.2.2.2.2.2.2⟩
  · obtain ⟨v, _, rfl⟩ := List.mem_map.1 hx
    obtain ⟨h1, h2, h3, _, h5, h6⟩ := esc_free h v b hb
    exact ⟨h1, h2, h3, h5, h6⟩
theorem prR_free {d : Dm} (h : OkD d) (r : Rept) : ∀ b ∈ prR d r, b ≠ d.f ∧ b ≠ d.r ∧ b ≠ 13 ∧ b ≠ 10 := by
  intro b hb
  have ms := may_letter _ h.mc
  rcases join_mem hb with rfl | ⟨x, hx, hb⟩
  · exact ⟨h.fc.symm, h.cr, ms.2.2.2.2.2.2.2.1, ms.2.2.2.2.2.2.2.2⟩
  · obtain ⟨v, _, rfl⟩ := List.mem_map.1 hx
    obtain ⟨h1, h2, h3, h4, h5⟩ := prC_free h v b hb
    exact ⟨h1, h3, h4, h5⟩
theorem prF_free {d : Dm} (h : OkD d) (f : Fldt) : ∀ b ∈ prF d f, b ≠ d.f ∧ b ≠ 13 ∧ b ≠ 10 := by
  intro b hb
  have ms := may_letter _ h.mr
  rcases join_mem hb with rfl | ⟨x, hx, hb⟩
  · exact ⟨h.fr.symm, ms.2.2.2.2.2.2.2.1, ms.2.2.2.2.2.2.2.2⟩
  · obtain ⟨v, _, rfl⟩ := List.mem_map.1 hx
    obtain ⟨h1, h2, h3, h4⟩ := prR_free h v b hb
    exact ⟨h1, h3, h4⟩
theorem trim_map_eq {α β : Type} {g g' : α → List β} {l : List α} (h : ∀ x ∈ l, g x = g' x) : trimT (l.map g) = trimT (l.map g') := by
  congr 1; exact List.map_congr_left h
theorem rd_prC {d : Dm} (h : OkD d) {c : Cmp} (hc : c.length ≤ 50) : canC (rdC d (prC d c)) = canC c ∧ bdC d (prC d c) = false := by
  by_cases he : c = []
  · subst he
    constructor
    · show trimT (cutP d.s (readP d) []) = trimT []
      rfl
    · rfl
  · have hs : splitP d.s (prC d c) = c.map (escW d) := split_join (by simpa using he) (fun x hx => by
      obtain ⟨v, _, rfl⟩ := List.mem_map.1 hx
      exact fun hb => (esc_free h v _ hb).2.2.2.1 rfl)
    unfold rdC bdC cutP badP
    rw [hs, List.length_map, if_neg (by omega), if_neg (by omega)]
    constructor
    · rw [List.map_map]
      have : (readP d ∘ escW d) = id := funext fun v => read_esc h v
      rw [this, List.map_id]
    · simp
theorem rd_prR {d : Dm} (h : OkD d) {r : Rept} (hr : fitsR r = true) : canR (rdR d (prR d r)) = canR r ∧ bdR d (prR d r) = false := by
  unfold fitsR at hr
  simp only [Bool.and_eq_true, decide_eq_true_eq, List.all_eq_true] at hr
  have hC : ∀ c ∈ r, c.length ≤ 50 := fun c hc => of_decide_eq_true (hr.2 c hc)
  by_cases he : r = []
  · subst he
    exact ⟨rfl, rfl⟩
  · have hs : splitP d.c (prR d r) = r.map (prC d) := split_join (by simpa using he) (fun x hx => by
      obtain ⟨v, _, rfl⟩ := List.mem_map.1 hx
      exact fun hb => (prC_free h v _ hb).2.1 rfl)
    unfold rdR bdR cutP badP
    rw [hs, List.length_map, if_neg (by omega), if_neg (by omega)]
    constructor
    · unfold canR
      rw [List.map_map, List.map_map]
      exact trim_map_eq fun c hc => (rd_prC h (hC c hc)).1
    · rw [List.any_map]
      apply List.any_eq_false.2
      intro c hc
      simp only [Function.comp]
      rw [(rd_prC h (hC c hc)).2]; simp
theorem rd_prF {d : Dm} (h : OkD d) {f : Fldt} (hf : fitsF f = true) : canF (rdF d (prF d f)) = canF f ∧ bdF d (prF d f) = false := by
  unfold fitsF at hf
  simp only [Bool.and_eq_true, decide_eq_true_eq, List.all_eq_true] at hf
  by_cases he : f = []
  · subst he
    exact ⟨rfl, rfl⟩
  · have hs : splitP d.r (prF d f) = f.map (prR d) := split_join (by simpa using he) (fun x hx => by
      obtain ⟨v, _, rfl⟩ := List.mem_map.1 hx
      exact fun hb => (prR_free h v _ hb).2.1 rfl)
    unfold rdF bdF cutP badP
    rw [hs, List.length_map, if_neg (by omega), if_neg (by omega)]
    constructor
    · unfold canF
      rw [List.map_map, List.map_map]
      exact trim_map_eq fun c hc => (rd_prR h (hf.2 c hc)).1
    · rw [List.any_map]
      apply List.any_eq_false.2
      intro c hc
      simp only [Function.comp]
      rw [(rd_prR h (hf.2 c hc)).2]; simp
end Go.V
set_option linter.unusedSimpArgs false
set_option linter.unusedVariables false
namespace Go.V
open Go.RowKit
def eolP (b : UInt8) : Bool := b == 13 || b == 10
def splL : Str → List Str
  | [] => [[]]
  | b :: r => if eolP b = true then [] :: splL r else match splL r with
    | x :: l => (b :: x) :: l
    | [] => [[b]]
def linesP (t : Str) : List Str := (splL t).filter fun x => !x.isEmpty
theorem splL_ne : ∀ s, splL s ≠ []
  | [] => by simp [splL]
  | b :: r => by
    unfold splL
    split
    · simp
    · split <;> simp
theorem splL_free : ∀ {s : Str}, (∀ b ∈ s, eolP b = false) → splL s = [s]
  | [], _ => rfl
  | b :: r, h => by
    unfold splL
    rw [if_neg (by rw [h b (by simp)]; simp), splL_free (fun x hx => h x (by simp [hx]))]
theorem splL_app : ∀ {x : Str} {b : UInt8} (r : Str), (∀ b ∈ x, eolP b = false) → eolP b = true → splL (x ++ b :: r) = x :: splL r
  | [], b, r, _, h => by show (if eolP b = true then [] :: splL r else _) = _; rw [if_pos h]
  | a :: x, b, r, h, hb => by
    show (if eolP a = true then [] :: splL (x ++ b :: r) else match splL (x ++ b :: r) with
      | x :: l => (a :: x) :: l
      | [] => [[a]]) = _
    rw [if_neg (by rw [h a (by simp)]; simp), splL_app r (fun y hy => h y (by simp [hy])) hb]
theorem linesP_app {x : Str} {b : UInt8} (r : Str) (h : ∀ b ∈ x, eolP b = false) (hb : eolP b = true) (hx : x ≠ []) : linesP (x ++ b :: r) = x :: linesP r := by
  unfold linesP
  rw [splL_app r h hb, List.filter_cons, if_pos (by cases x with
    | nil => exact absurd rfl hx
    | cons a x => rfl)]
def validD (d : Dm) : Bool := (mayU d.f && (mayU d.c && (mayU d.r && (mayU d.e && mayU d.s)))) && (d.f != d.c && (d.f != d.r && (d.f != d.e && (d.f != d.s && (d.c != d.r && (d.c != d.e && (d.c != d.s && (d.r != d.e && (d.r != d.s && d.e != d.s)))))))))
theorem validD_iff (d : Dm) : validD d = true ↔ OkD d := by
  unfold validD
  simp only [Bool.and_eq_true, bne_iff_ne, ne_eq]
  constructor
  · rintro ⟨⟨a1, a2, a3, a4, a5⟩, b1, b2, b3, b4, b5, b6, b7, b8, b9, b10⟩
    exact ⟨a1, a2, a3, a4, a5, b1, b2, b3, b4, b5, b6, b7, b8, b9, b10⟩
  · rintro ⟨a1, a2, a3, a4, a5, b1, b2, b3, b4, b5, b6, b7, b8, b9, b10⟩
    exact ⟨⟨a1, a2, a3, a4, a5⟩, b1, b2, b3, b4, b5, b6, b7, b8, b9, b10⟩
def dmOf (t : Str) : Dm := ⟨t.getD 3 0, t.getD 4 0, t.getD 5 0, t.getD 6 0, t.getD 7 0⟩
def ofP (t : Str) : Option Dm := if (decide (8 ≤ t.length) && (t.take 3 == msh)) = true then (if (validD (dmOf t) && (decide (t.length ≤ 8) || (t.getD 8 0 == (dmOf t).f || (t.getD 8 0 == 13 || t.getD 8 0 == 10)))) = true then some (dmOf t) else none) else none
def one1' (v : Str) : Fldt := [[[v]]]
def nmOf (d : Dm) (p : Str) : Str := (splitP d.f p).headD []
def segR (d : Dm) (p : Str) : Seg := ⟨nmOf d p, ((splitP d.f p).drop 1).map (rdF d)⟩
def seg0 (d : Dm) (p : Str) : Seg := ⟨nmOf d p, one1' [d.f] :: one1' [d.c, d.r, d.e, d.s] :: ((splitP d.f p).drop 2).map (rdF d)⟩
def segsP (d : Dm) : List Str → List Seg
  | [] => []
  | p :: ps => seg0 d p :: ps.map (segR d)
def lnOk (nm : Str → Bool) (d : Dm) (p : Str) : Bool := nm (p.take 3) && (decide (p.length ≤ 3) || (p.getD 3 0 == d.f))
def lnsOk (nm : Str → Bool) (d : Dm) : List Str → Bool
  | [] => true
  | p :: ps => lnOk nm d p && ps.all fun q => lnOk nm d q && !(msh.isPrefixOf q)
def lnBad0 (d : Dm) (p : Str) : Bool := decide (100 < 2 + ((splitP d.f p).drop 2).length) || ((splitP d.f p).drop 2).any (bdF d)
def lnBadR (d : Dm) (p : Str) : Bool := decide (100 < ((splitP d.f p).drop 1).length) || ((splitP d.f p).drop 1).any (bdF d)
def longP (d : Dm) (ps : List Str) : Bool := decide (200 < ps.length) || (match ps with
  | [] => false
  | p :: ps => lnBad0 d p || ps.any (lnBadR d))
def parseE (nm : Str → Bool) (t : Str) : Int := if 65536 < t.length then 2 else match ofP t with
  | none => 50
  | some d => if lnsOk nm d (linesP t) = true then (if longP d (linesP t) = true then 2 else 0) else 51
def parseL (t : Str) : List Seg := match ofP t with
  | none => []
  | some d => canM (segsP d (linesP t))
def fldsP (d : Dm) (l : List Fldt) : Str := l.flatMap fun f => d.f :: prF d f
def lineR (d : Dm) (g : Seg) : Str := g.name ++ fldsP d g.flds
def line0 (d : Dm) (g : Seg) : Str := [77, 83, 72, d.f, d.c, d.r, d.e, d.s] ++ fldsP d (g.flds.drop 2)
def printP (d : Dm) (l : List Seg) : Str := match canM l with
  | [] => []
  | g :: gs => line0 d g ++ 13 :: gs.flatMap fun g => lineR d g ++ [13]
def NmOk (nm : Str → Bool) : Prop := ∀ s, nm s = true → s.length = 3 ∧ ∀ b ∈ s, mayU b = false ∧ eolP b = false
structure OkM (nm : Str → Bool) (d : Dm) (l : List Seg) : Prop where
  sg : OkD d
  len : l.length ≤ 200
  nms : ∀ g ∈ l, nm g.name = true ∧ fitsG g = true
  hd : ∃ g gs, l = g :: gs ∧ g.name = msh ∧ (∃ r, g.flds = one1' [d.f] :: one1' [d.c, d.r, d.e, d.s] :: r) ∧ ∀ h ∈ gs, h.name ≠ msh
theorem may_eol {b : UInt8} (h : mayU b = true) : eolP b = false := by
  have := may_letter b h
  unfold eolP
  simp [this.2.2.2.2.2.2.2.1, this.2.2.2.2.2.2.2.2]
theorem fldsP_eol {d : Dm} (h : OkD d) (l : List Fldt) : ∀ b ∈ fldsP d l, eolP b = false := by
  intro b hb
  unfold fldsP at hb
  obtain ⟨f, _, hb⟩ := List.mem_flatMap.1 hb
  rcases List.mem_cons.1 hb with rfl | hb
  · exact may_eol h.mf
  · have := prF_free h f b hb
    unfold eolP; simp [this.2.1, this.2.2]
theorem split_flds {d : Dm} (h : OkD d) : ∀ {x : Str} (l : List Fldt), d.f ∉ x → splitP d.f (x ++ fldsP d l) = x :: l.map (prF d)
  | x, [], hx => by
    have : x ++ fldsP d [] = x := by simp [fldsP]
    rw [this, splitP_free hx]; rfl
  | x, f :: l, hx => by
    have : x ++ fldsP d (f :: l) = x ++ d.f :: (prF d f ++ fldsP d l) := by simp [fldsP]
    rw [this, splitP_app _ hx, split_flds h l (fun hb => (prF_free h f _ hb).1 rfl)]; rfl
theorem canS_can2 (l : List Fldt) : canS (canS l) = canS l := canS_ext fun f r c s _ _ _ _ => gS_can l f r c s
theorem canG_can2 (g : Seg) : canG (canG g) = canG g := by unfold canG; rw [canS_can2]
theorem canM_can2 (l : List Seg) : canM (canM l) = canM l := by
  unfold canM; rw [List.map_map]; exact List.map_congr_left fun g _ => canG_can2 g
theorem canS_rd {d : Dm} (h : OkD d) {l : List Fldt} (hl : ∀ f ∈ l, fitsF f = true) (pre : List Fldt) : canS (pre ++ (l.map (prF d)).map (rdF d)) = canS (pre ++ l) := by
  unfold canS
  rw [List.map_append, List.map_append, List.map_map, List.map_map]
  congr 2
  exact List.map_congr_left fun f hf => (rd_prF h (hl f hf)).1
theorem seg_rd {nm : Str → Bool} (hnm : NmOk nm) {d : Dm} (h : OkD d) {g : Seg} (hn : nm g.name = true) (hf : fitsG g = true) :
    canG (segR d (lineR d g)) = canG g ∧ lnOk nm d (lineR d g) = true ∧ lnBadR d (lineR d g) = false ∧ (∀ b ∈ lineR d g, eolP b = false) ∧ lineR d g ≠ [] ∧ (lineR d g).take 3 = g.name := by
  obtain ⟨hlen, hb⟩ := hnm _ hn
  have hfree : d.f ∉ g.name := fun x => by
    have := (hb _ x).1
    rw [h.mf] at this; cases this
  unfold fitsG at hf
  simp only [Bool.and_eq_true, decide_eq_true_eq, List.all_eq_true] at hf
  have hs := split_flds h g.flds hfree
  have htake : (lineR d g).take 3 = g.name := by
    unfold lineR
    rw [List.take_append_of_le_length (by omega), List.take_of_length_le (by omega)]
  refine ⟨?_, ?_, ?_, ?_, ?_, htake⟩
  · unfold segR nmOf lineR
    rw [hs]
    show (⟨g.name, canS _⟩ : Seg) = ⟨g.name, canS g.flds⟩
    congr 1
    have := canS_rd h (l := g.flds) (fun f hf' => hf.2 f hf') []
    simpa using this
  · unfold lnOk
    rw [htake, hn, Bool.true_and]
    unfold lineR
    cases hfl : g.flds with
    | nil => simp [fldsP, hlen]
    | cons f l =>
      have : (g.name ++ fldsP d (f :: l)).getD 3 0 = d.f := by
        rw [List.getD_eq_getElem?_getD, List.getElem?_append_right (by omega), hlen]
        simp [fldsP]
      rw [this]; simp
  · unfold lnBadR lineR
    rw [hs]
    simp only [List.drop_succ_cons, List.drop_zero, List.length_map]
    rw [decide_eq_false (by omega), Bool.false_or, List.any_map]
    apply List.any_eq_false.2
    intro f hf'
    simp only [Function.comp]
    rw [(rd_prF h (hf.2 f hf')).2]; simp
  · intro b hb'
    unfold lineR at hb'
    rcases List.mem_append.1 hb' with hb' | hb'
    · exact (hb b hb').2
    · exact fldsP_eol h _ b hb'
  · intro e
    rw [e] at htake
    simp at htake
    rw [htake] at hlen; simp at hlen
theorem seg0_rd {nm : Str → Bool} (hnm : NmOk nm) {d : Dm} (h : OkD d) (hm : nm msh = true) {g : Seg} {r : List Fldt} (hn : g.name = msh) (hfl : g.flds = one1' [d.f] :: one1' [d.c, d.r, d.e, d.s] :: r) (hf : fitsG g = true) :
    canG (seg0 d (line0 d g)) = canG g ∧ lnOk nm d (line0 d g) = true ∧ lnBad0 d (line0 d g) = false ∧ (∀ b ∈ line0 d g, eolP b = false) ∧ line0 d g ≠ [] := by
  obtain ⟨hlen, hb⟩ := hnm _ hm
  have hfree : d.f ∉ msh := fun x => by
    have := (hb _ x).1
    rw [h.mf] at this; cases this
  unfold fitsG at hf
  simp only [Bool.and_eq_true, decide_eq_true_eq, List.all_eq_true] at hf
  have hd2 : g.flds.drop 2 = r := by rw [hfl]; rfl
  have hsg : d.f ∉ [d.c, d.r, d.e, d.s] := by
    intro x
    simp at x
    rcases x with x | x | x | x
    · exact h.fc x
    · exact h.fr x
    · exact h.fe x
    · exact h.fs x
  have hs : splitP d.f (line0 d g) = msh :: [d.c, d.r, d.e, d.s] :: r.map (prF d) := by
    have e : line0 d g = msh ++ d.f :: ([d.c, d.r, d.e, d.s] ++ fldsP d r) := by unfold line0; rw [hd2]; rfl
    rw [e, splitP_app _ hfree, split_flds h r hsg]
  have hr : ∀ f ∈ r, fitsF f = true := fun f hf' => hf.2 f (by rw [hfl]; simp [hf'])
  refine ⟨?_, ?_, ?_, ?_, ?_⟩
  · unfold seg0 nmOf
    rw [hs]
    show (⟨msh, canS _⟩ : Seg) = ⟨g.name, canS g.flds⟩
    rw [hn, hfl]
    congr 1
    exact canS_rd h hr [one1' [d.f], one1' [d.c, d.r, d.e, d.s]]
  · unfold lnOk
    have e1 : (line0 d g).take 3 = msh := rfl
    have e2 : (line0 d g).getD 3 0 = d.f := rfl
    rw [e1, hm, e2]; simp
  · unfold lnBad0
    rw [hs]
    simp only [List.drop_succ_cons, List.drop_zero, List.length_map]
    have : r.length + 2 ≤ 100 := by have := hf.1; rw [hfl] at this; simpa using this
    rw [decide_eq_false (by omega), Bool.false_or, List.any_map]
    apply List.any_eq_false.2
    intro f hf'
    simp only [Function.comp]
    rw [(rd_prF h (hr f hf')).2]; simp
  · intro b hb'
    unfold line0 at hb'
    rcases List.mem_append.1 hb' with hb' | hb'
    · simp at hb'
      rcases hb' with rfl | rfl | rfl | rfl | rfl | rfl | rfl | rfl
      · rfl
      · rfl
      · rfl
      · exact may_eol h.mf
      · exact may_eol h.mc
      · exact may_eol h.mr
      · exact may_eol h.me
      · exact may_eol h.ms
    · exact fldsP_eol h _ b hb'
  · simp [line0]
theorem lines_of {nm : Str → Bool} (hnm : NmOk nm) {d : Dm} (h : OkD d) : ∀ {gs : List Seg}, (∀ g ∈ gs, nm g.name = true ∧ fitsG g = true) → linesP (gs.flatMap fun g => lineR d g ++ [13]) = gs.map (lineR d)
  | [], _ => rfl
  | g :: gs, hg => by
    obtain ⟨h1, h2⟩ := hg g (by simp)
    obtain ⟨_, _, _, h3, h4, _⟩ := seg_rd hnm h h1 h2
    have e : ((g :: gs).flatMap fun g => lineR d g ++ [13]) = lineR d g ++ 13 :: (gs.flatMap fun g => lineR d g ++ [13]) := by simp
    rw [e, linesP_app _ h3 rfl h4, lines_of hnm h (fun x hx => hg x (by simp [hx]))]; rfl
theorem OkM.can {nm : Str → Bool} {d : Dm} {l : List Seg} (h : OkM nm d l) : OkM nm d (canM l) := by
  obtain ⟨g, gs, rfl, hn, ⟨r, hf⟩, hx⟩ := h.hd
  refine ⟨h.sg, by unfold canM; rw [List.length_map]; exact h.len, ?_, canG g, canM gs, rfl, hn, ?_, ?_⟩
  · intro x hx
    unfold canM at hx
    obtain ⟨y, hy, rfl⟩ := List.mem_map.1 hx
    exact ⟨(h.nms y hy).1, fitsG_can (h.nms y hy).2⟩
  · obtain ⟨e, he, hall⟩ := trimT_split (g.flds.map canF)
    have hm : g.flds.map canF = one1' [d.f] :: one1' [d.c, d.r, d.e, d.s] :: r.map canF := by rw [hf]; rfl
    have h0 : (g.flds.map canF)[0]? = some (one1' [d.f]) := by rw [hm]; rfl
    have h1 : (g.flds.map canF)[1]? = some (one1' [d.c, d.r, d.e, d.s]) := by rw [hm]; rfl
    have i0 : ∀ hh : 0 < (g.flds.map canF).length, ((g.flds.map canF)[0]'hh).isEmpty = false := fun hh => by
      rw [List.getElem?_eq_getElem hh] at h0; rw [Option.some.inj h0]; rfl
    have i1 : ∀ hh : 1 < (g.flds.map canF).length, ((g.flds.map canF)[1]'hh).isEmpty = false := fun hh => by
      rw [List.getElem?_eq_getElem hh] at h1; rw [Option.some.inj h1]; rfl
    have j0 : 0 < (g.flds.map canF).length := by rw [hm]; simp
    have j1 : 1 < (g.flds.map canF).length := by rw [hm]; simp
    obtain ⟨l0, e0⟩ := trimT_at (l := g.flds.map canF) (j := 0) j0 (i0 j0)
    obtain ⟨l1, e1⟩ := trimT_at (l := g.flds.map canF) (j := 1) j1 (i1 j1)
    show ∃ r, trimT (g.flds.map canF) = _
    cases ht : trimT (g.flds.map canF) with
    | nil => rw [ht] at l0; simp at l0
    | cons a t =>
      cases t with
      | nil => rw [ht] at l1; simp at l1
      | cons b t =>
        refine ⟨t, ?_⟩
        have a0 : a = one1' [d.f] := by
          have : (trimT (g.flds.map canF))[0]? = some (one1' [d.f]) := by rw [List.getElem?_eq_getElem l0, e0, ← List.getElem?_eq_getElem]; exact h0
          rw [ht] at this; simpa using this
        have b0 : b = one1' [d.c, d.r, d.e, d.s] := by
          have : (trimT (g.flds.map canF))[1]? = some (one1' [d.c, d.r, d.e, d.s]) := by rw [List.getElem?_eq_getElem l1, e1, ← List.getElem?_eq_getElem]; exact h1
          rw [ht] at this; simpa using this
        rw [a0, b0]
  · intro y hy
    unfold canM at hy
    obtain ⟨z, hz, rfl⟩ := List.mem_map.1 hy
    exact hx z hz
theorem ofP_line {d : Dm} (h : OkD d) {g : Seg} (t : Str) : ofP (line0 d g ++ 13 :: t) = some d := by
  have hv := (validD_iff d).2 h
  obtain ⟨b, x, e, hb⟩ : ∃ b x, line0 d g ++ 13 :: t = 77 :: 83 :: 72 :: d.f :: d.c :: d.r :: d.e :: d.s :: b :: x ∧ (b = d.f ∨ b = 13) := by
    cases hr : fldsP d (g.flds.drop 2) with
    | nil => exact ⟨13, t, by unfold line0; rw [hr]; rfl, .inr rfl⟩
    | cons b x =>
      refine ⟨b, x ++ 13 :: t, by unfold line0; rw [hr]; rfl, .inl ?_⟩
      unfold fldsP at hr
      cases hd : g.flds.drop 2 with
      | nil => rw [hd] at hr; simp at hr
      | cons f l => rw [hd] at hr; simp at hr; exact hr.1.symm
  rw [e]
  unfold ofP
  have e1 : dmOf (77 :: 83 :: 72 :: d.f :: d.c :: d.r :: d.e :: d.s :: b :: x) = d := rfl
  have e2 : (77 :: 83 :: 72 :: d.f :: d.c :: d.r :: d.e :: d.s :: b :: x).getD 8 0 = b := rfl
  rw [e1, e2, hv, if_pos (by simp [msh]), if_pos]
  rcases hb with rfl | rfl <;> simp
theorem parse_print {nm : Str → Bool} (hnm : NmOk nm) (hm : nm msh = true) {d : Dm} {l : List Seg} (h : OkM nm d l) (hlen : (printP d l).length ≤ 65536) : parseE nm (printP d l) = 0 ∧ ofP (printP d l) = some d ∧ parseL (printP d l) = canM l := by
  have hc := h.can
  obtain ⟨g, gs, hgg, hn, ⟨r, hf⟩, hx⟩ := hc.hd
  have hg := hc.nms g (by rw [hgg]; simp)
  have hgs : ∀ y ∈ gs, nm y.name = true ∧ fitsG y = true := fun y hy => hc.nms y (by rw [hgg]; simp [hy])
  have hp : printP d l = line0 d g ++ 13 :: gs.flatMap fun g => lineR d g ++ [13] := by unfold printP; rw [hgg]
  obtain ⟨s1, s2, s3, s4, s5⟩ := seg0_rd hnm h.sg hm hn hf hg.2
  have hof : ofP (printP d l) = some d := by rw [hp]; exact ofP_line h.sg _
  have hln : linesP (printP d l) = line0 d g :: gs.map (lineR d) := by rw [hp, linesP_app _ s4 rfl s5, lines_of hnm h.sg hgs]
  refine ⟨?_, hof, ?_⟩
  · unfold parseE
    rw [if_neg (by omega), hof]
    simp only
    rw [hln]
    have o1 : lnsOk nm d (line0 d g :: gs.map (lineR d)) = true := by
      show (lnOk nm d (line0 d g) && (gs.map (lineR d)).all fun q => lnOk nm d q && !(msh.isPrefixOf q)) = true
      rw [s2, Bool.true_and, List.all_map]
      apply List.all_eq_true.2
      intro y hy
      obtain ⟨_, t2, _, _, _, t6⟩ := seg_rd hnm h.sg (hgs y hy).1 (hgs y hy).2
      simp only [Function.comp]
      rw [t2, Bool.true_and]
      have : msh.isPrefixOf (lineR d y) = false := by
        cases hpre : msh.isPrefixOf (lineR d y) with
        | false => rfl
        | true =>
          have := List.isPrefixOf_iff_prefix.1 hpre
          have e := List.prefix_iff_eq_take.1 this
          rw [show msh.length = 3 from rfl, t6] at e
          exact absurd e.symm (hx y hy)
      rw [this]; rfl
    have o2 : longP d (line0 d g :: gs.map (lineR d)) = false := by
      unfold longP
      have hl := hc.len
      rw [hgg] at hl
      rw [decide_eq_false (by simp at hl ⊢; omega), Bool.false_or]
      show (lnBad0 d (line0 d g) || (gs.map (lineR d)).any (lnBadR d)) = false
      rw [s3, Bool.false_or, List.any_map]
      apply List.any_eq_false.2
      intro y hy
      obtain ⟨_, _, t3, _⟩ := seg_rd hnm h.sg (hgs y hy).1 (hgs y hy).2
      simp only [Function.comp]
      rw [t3]; simp
    rw [if_pos o1, if_neg (by rw [o2]; simp)]
  · unfold parseL
    rw [hof]
    simp only
    rw [hln]
    show canM (seg0 d (line0 d g) :: (gs.map (lineR d)).map (segR d)) = canM l
    have e : canM (seg0 d (line0 d g) :: (gs.map (lineR d)).map (segR d)) = canM (g :: gs) := by
      unfold canM
      simp only [List.map_cons, List.map_map]
      rw [s1]
      congr 1
      exact List.map_congr_left fun y hy => (seg_rd hnm h.sg (hgs y hy).1 (hgs y hy).2).1
    rw [e, ← hgg, canM_can2]
theorem splL_pre : ∀ {x : Str} (r : Str), (∀ b ∈ x, eolP b = false) → ∃ y l, splL r = y :: l ∧ splL (x ++ r) = (x ++ y) :: l
  | [], r, _ => by
    cases h : splL r with
    | nil => exact absurd h (splL_ne r)
    | cons y l => exact ⟨y, l, rfl, h⟩
  | a :: x, r, h => by
    obtain ⟨y, l, h1, h2⟩ := splL_pre (x := x) r (fun b hb => h b (by simp [hb]))
    refine ⟨y, l, h1, ?_⟩
    show (if eolP a = true then [] :: splL (x ++ r) else match splL (x ++ r) with
      | x :: l => (a :: x) :: l
      | [] => [[a]]) = _
    rw [if_neg (by rw [h a (by simp)]; simp), h2]; rfl
theorem nmOf_eq {nm : Str → Bool} (hnm : NmOk nm) {d : Dm} (h : OkD d) {p : Str} (hp : lnOk nm d p = true) : nmOf d p = p.take 3 ∧ nm (p.take 3) = true := by
  unfold lnOk at hp
  simp only [Bool.and_eq_true, Bool.or_eq_true, decide_eq_true_eq] at hp
  obtain ⟨h1, h2⟩ := hp
  obtain ⟨h3, h4⟩ := hnm _ h1
  have hfree : d.f ∉ p.take 3 := fun x => by
    have := (h4 _ x).1
    rw [h.mf] at this; cases this
  refine ⟨?_, h1⟩
  unfold nmOf
  by_cases hl : p.length ≤ 3
  · have e : p.take 3 = p := List.take_of_length_le hl
    rw [e] at hfree ⊢
    rw [splitP_free hfree]; rfl
  · have h2 : p.getD 3 0 = d.f := by
      rcases h2 with h2 | h2
      · omega
      · simpa using h2
    have e : p = p.take 3 ++ d.f :: p.drop 4 := by
      conv => lhs; rw [← List.take_append_drop 3 p]
      congr 1
      rw [List.drop_eq_getElem_cons (show 3 < p.length by omega)]
      congr 1
      rw [List.getD_eq_getElem?_getD, List.getElem?_eq_getElem (show 3 < p.length by omega)] at h2
      exact h2
    have e2 : splitP d.f p = p.take 3 :: splitP d.f (p.drop 4) := by
      conv => lhs; rw [e]
      exact splitP_app _ hfree
    rw [e2]; rfl
theorem dm_eol {d : Dm} (h : OkD d) {b : UInt8} (hb : b = d.f ∨ b = d.c ∨ b = d.r ∨ b = d.e ∨ b = d.s) : eolP b = false := by
  rcases hb with rfl | rfl | rfl | rfl | rfl
  · exact may_eol h.mf
  · exact may_eol h.mc
  · exact may_eol h.mr
  · exact may_eol h.me
  · exact may_eol h.ms
theorem ofP_some {t : Str} {d : Dm} (h : ofP t = some d) : OkD d ∧ ∃ r, t = 77 :: 83 :: 72 :: d.f :: d.c :: d.r :: d.e :: d.s :: r ∧ (r = [] ∨ ∃ b r', r = b :: r' ∧ (b = d.f ∨ b = 13 ∨ b = 10)) := by
  unfold ofP at h
  split at h
  · rename_i h1
    split at h
    · rename_i h2
      simp only [Bool.and_eq_true, decide_eq_true_eq, beq_iff_eq] at h1 h2
      obtain ⟨hl, hm⟩ := h1
      obtain ⟨hv, h8⟩ := h2
      cases h
      refine ⟨(validD_iff _).1 hv, t.drop 8, ?_, ?_⟩
      · match t, hl, hm with
        | a0 :: a1 :: a2 :: a3 :: a4 :: a5 :: a6 :: a7 :: r, _, hm =>
          simp [msh] at hm
          obtain ⟨rfl, rfl, rfl⟩ := hm
          rfl
      · match t, hl, h8 with
        | [a0, a1, a2, a3, a4, a5, a6, a7], _, _ => exact .inl rfl
        | a0 :: a1 :: a2 :: a3 :: a4 :: a5 :: a6 :: a7 :: b :: r, _, h8 =>
          refine .inr ⟨b, r, rfl, ?_⟩
          simp [dmOf] at h8
          simpa [dmOf] using h8
    · cases h
  · cases h
theorem lines_first {t : Str} {d : Dm} (h : ofP t = some d) : ∃ p ps, linesP t = p :: ps ∧ p.take 3 = msh := by
  obtain ⟨ok, r, rfl, _⟩ := ofP_some h
  obtain ⟨y, l, h1, h2⟩ := splL_pre (x := [77, 83, 72, d.f, d.c, d.r, d.e, d.s]) r (fun b hb => by
    simp at hb
    rcases hb with rfl | rfl | rfl | hb
    · rfl
    · rfl
    · rfl
    · exact dm_eol ok hb)
  have e : linesP (77 :: 83 :: 72 :: d.f :: d.c :: d.r :: d.e :: d.s :: r) = ([77, 83, 72, d.f, d.c, d.r, d.e, d.s] ++ y) :: l.filter fun x => !x.isEmpty := by
    unfold linesP
    have h2 : splL (77 :: 83 :: 72 :: d.f :: d.c :: d.r :: d.e :: d.s :: r) = ([77, 83, 72, d.f, d.c, d.r, d.e, d.s] ++ y) :: l := h2
    rw [h2, List.filter_cons, if_pos (by rfl)]
  exact ⟨_, _, e, rfl⟩
end Go.V
set_option linter.unusedSimpArgs false
set_option linter.unusedVariables false
namespace Go.V
open Go.RowKit
theorem linesP_eol {x : Str} {b : UInt8} (r : Str) (h : ∀ b ∈ x, eolP b = false) (hb : eolP b = true) : linesP (x ++ b :: r) = (if x.isEmpty = true then [] else [x]) ++ linesP r := by
  unfold linesP
  rw [splL_app r h hb, List.filter_cons]
  cases x <;> rfl
theorem ofP_mk {d : Dm} (h : OkD d) {r : Str} (hr : r = [] ∨ ∃ b r', r = b :: r' ∧ (b = d.f ∨ b = 13 ∨ b = 10)) : ofP (77 :: 83 :: 72 :: d.f :: d.c :: d.r :: d.e :: d.s :: r) = some d := by
  have hv := (validD_iff d).2 h
  unfold ofP
  have e1 : dmOf (77 :: 83 :: 72 :: d.f :: d.c :: d.r :: d.e :: d.s :: r) = d := rfl
  rw [e1, hv, if_pos (by simp [msh]), if_pos]
  rcases hr with rfl | ⟨b, r', rfl, hb⟩
  · simp
  · have e2 : (77 :: 83 :: 72 :: d.f :: d.c :: d.r :: d.e :: d.s :: b :: r').getD 8 0 = b := rfl
    rw [e2]
    rcases hb with rfl | rfl | rfl <;> simp
theorem hd_free {d : Dm} (h : OkD d) : ∀ b ∈ ([77, 83, 72, d.f, d.c, d.r, d.e, d.s] : Str), eolP b = false := by
  intro b hb
  simp at hb
  rcases hb with rfl | rfl | rfl | hb
  · rfl
  · rfl
  · rfl
  · exact dm_eol h hb
theorem opt_eq {α : Type} {a b : Option α} (h1 : ∀ x, a = some x → b = some x) (h2 : ∀ x, b = some x → a = some x) : a = b := by
  cases a with
  | some x => exact (h1 x rfl).symm
  | none => cases b with
    | none => rfl
    | some x => exact h2 x rfl
theorem linesP_line : ∀ {t : Str} (a l : Str), (∀ b ∈ a, eolP b = false) → (∀ b ∈ l, eolP b = false) → linesP (a ++ (t ++ 13 :: l)) = linesP (a ++ t) ++ (if l.isEmpty = true then [] else [l])
  | [], a, l, ha, hl => by
    have h1 : linesP l = if l.isEmpty = true then [] else [l] := by
      unfold linesP; rw [splL_free hl]; cases l <;> rfl
    have h2 : linesP a = if a.isEmpty = true then [] else [a] := by
      unfold linesP; rw [splL_free ha]; cases a <;> rfl
    rw [List.nil_append, List.append_nil, linesP_eol l ha rfl, h1, h2]
  | b :: t, a, l, ha, hl => by
    by_cases hb : eolP b = true
    · have ih := linesP_line (t := t) [] l (by simp) hl
      simp only [List.nil_append] at ih
      rw [List.cons_append, linesP_eol _ ha hb, linesP_eol t ha hb, ih, List.append_assoc]
    · have ih := linesP_line (t := t) (a ++ [b]) l (fun x hx => by
        rcases List.mem_append.1 hx with hx | hx
        · exact ha x hx
        · simp at hx; subst hx; simpa using hb) hl
      simpa using ih
theorem app_free : ∀ {x r t l : Str}, (∀ b ∈ x, eolP b = false) → t ++ 13 :: l = x ++ r → ∃ r', t = x ++ r' ∧ r = r' ++ 13 :: l
  | [], r, t, l, _, h => ⟨t, rfl, h.symm⟩
  | a :: x, r, [], l, hx, h => by
    simp at h
    have := hx a (by simp)
    rw [← h.1] at this; cases this
  | a :: x, r, b :: t, l, hx, h => by
    simp at h
    obtain ⟨rfl, h⟩ := h
    obtain ⟨r', h1, h2⟩ := app_free (fun y hy => hx y (by simp [hy])) h
    exact ⟨r', by rw [h1]; rfl, h2⟩
theorem ofP_more (t l : Str) : ofP (t ++ 13 :: l) = ofP t := by
  apply opt_eq
  · intro d hd
    obtain ⟨ok, r, hr, hb⟩ := ofP_some hd
    obtain ⟨r', h1, h2⟩ := app_free (x := [77, 83, 72, d.f, d.c, d.r, d.e, d.s]) (hd_free ok) hr
    rw [h1]
    apply ofP_mk ok
    cases r' with
    | nil => exact .inl rfl
    | cons b r' =>
      rcases hb with rfl | ⟨c, r2, rfl, hc⟩
      · simp at h2
      · simp at h2; exact .inr ⟨b, r', rfl, by rw [← h2.1]; exact hc⟩
  · intro d hd
    obtain ⟨ok, r, rfl, hb⟩ := ofP_some hd
    apply ofP_mk ok (r := r ++ 13 :: l)
    rcases hb with rfl | ⟨b, r', rfl, hb⟩
    · exact .inr ⟨13, l, rfl, .inr (.inl rfl)⟩
    · exact .inr ⟨b, r' ++ 13 :: l, rfl, hb⟩
theorem lnsOk_app (nm : Str → Bool) (d : Dm) (p : Str) (ps qs : List Str) : lnsOk nm d (p :: ps ++ qs) = (lnsOk nm d (p :: ps) && qs.all fun q => lnOk nm d q && !(msh.isPrefixOf q)) := by
  show (lnOk nm d p && (ps ++ qs).all fun q => lnOk nm d q && !(msh.isPrefixOf q)) = ((lnOk nm d p && ps.all fun q => lnOk nm d q && !(msh.isPrefixOf q)) && _)
  rw [List.all_append, Bool.and_assoc]
theorem longP_app {d : Dm} {p : Str} {ps qs : List Str} (h : longP d (p :: ps) = true) : longP d (p :: ps ++ qs) = true := by
  unfold longP at *
  simp only [List.cons_append, Bool.or_eq_true, decide_eq_true_eq, List.length_cons, List.length_append, List.any_append] at *
  rcases h with h | h | h
  · left; omega
  · exact .inr (.inl h)
  · exact .inr (.inr (.inl h))
theorem parse_line {nm : Str → Bool} (hnm : NmOk nm) {t l : Str} (hl : ∀ b ∈ l, eolP b = false) (hlen : t.length + l.length ≤ 9000) :
    (parseE nm t ≠ 0 → parseE nm (t ++ 13 :: l) ≠ 0) ∧
    (parseE nm t = 0 → (parseE nm (t ++ 13 :: l) = 0 ∨ parseE nm (t ++ 13 :: l) = 51 ∨ parseE nm (t ++ 13 :: l) = 2)) ∧
    (parseE nm (t ++ 13 :: l) = 0 → (l = [] → parseL (t ++ 13 :: l) = parseL t) ∧ (l ≠ [] → 3 ≤ l.length ∧ ∃ g, parseL (t ++ 13 :: l) = parseL t ++ [g] ∧ g.name = l.take 3)) := by
  have hn : (t ++ 13 :: l).length ≤ 65536 := by simp; omega
  have hlines := linesP_line (t := t) [] l (by simp) hl
  simp only [List.nil_append] at hlines
  obtain ⟨X, hX⟩ : ∃ X, X = (if l.isEmpty = true then ([] : List Str) else [l]) := ⟨_, rfl⟩
  rw [← hX] at hlines
  have eX : parseE nm (t ++ 13 :: l) = match ofP t with
    | none => 50
    | some d => if lnsOk nm d (linesP t ++ X) = true then (if longP d (linesP t ++ X) = true then 2 else 0) else 51 := by
    unfold parseE
    rw [if_neg (by omega), ofP_more, hlines] <;> rfl
  have eL : parseL (t ++ 13 :: l) = match ofP t with
    | none => []
    | some d => canM (segsP d (linesP t ++ X)) := by
    unfold parseL
    rw [ofP_more, hlines] <;> rfl
  have e0 : parseE nm t = match ofP t with
    | none => 50
    | some d => if lnsOk nm d (linesP t) = true then (if longP d (linesP t) = true then 2 else 0) else 51 := by
    unfold parseE
    rw [if_neg (by simp at hn; omega)] <;> rfl
  have e1 : parseL t = match ofP t with
    | none => []
    | some d => canM (segsP d (linesP t)) := rfl
  cases ho : ofP t with
  | none =>
    simp only [ho] at eX e0
    rw [eX, e0]
    exact ⟨fun h => h, fun h => (by cases h), fun h => (by cases h)⟩
  | some d =>
    obtain ⟨p, ps, hp, hp3⟩ := lines_first ho
    simp only [ho, hp] at eX e0 eL e1
    refine ⟨?_, ?_, ?_⟩
    · intro h h2
      apply h
      rw [eX] at h2
      rw [e0]
      by_cases c1 : lnsOk nm d (p :: ps ++ X) = true
      · rw [if_pos c1] at h2
        have c2 := c1
        rw [lnsOk_app, Bool.and_eq_true] at c2
        rw [if_pos c2.1]
        by_cases c3 : longP d (p :: ps) = true
        · rw [if_pos (longP_app c3)] at h2; cases h2
        · rw [if_neg c3]
      · rw [if_neg c1] at h2; cases h2
    · intro _
      rw [eX]
      by_cases c1 : lnsOk nm d (p :: ps ++ X) = true
      · rw [if_pos c1]
        by_cases c3 : longP d (p :: ps ++ X) = true
        · rw [if_pos c3]; exact .inr (.inr rfl)
        · rw [if_neg c3]; exact .inl rfl
      · rw [if_neg c1]; exact .inr (.inl rfl)
    · intro h
      refine ⟨fun e => ?_, fun hne => ?_⟩
      · have hX0 : X = [] := by rw [hX, e]; rfl
        rw [eL, e1, hX0, List.append_nil]
      · have hX1 : X = [l] := by
          rw [hX]
          cases l with
          | nil => exact absurd rfl hne
          | cons a l => rfl
        rw [hX1] at eX eL
        rw [eX] at h
        have hok : lnsOk nm d (p :: ps ++ [l]) = true := by
          by_cases hc : lnsOk nm d (p :: ps ++ [l]) = true
          · exact hc
          · rw [if_neg hc] at h; cases h
        rw [lnsOk_app] at hok
        simp at hok
        obtain ⟨n1, n2⟩ := nmOf_eq hnm (ofP_some ho).1 hok.2.1
        have n3 := (hnm _ n2).1
        refine ⟨by rw [List.length_take] at n3; omega, canG (segR d l), ?_, n1⟩
        rw [eL, e1]
        show canM (seg0 d p :: (ps ++ [l]).map (segR d)) = canM (seg0 d p :: ps.map (segR d)) ++ [canG (segR d l)]
        unfold canM
        simp
end Go.V
set_option linter.unusedSimpArgs false
set_option linter.unusedVariables false
namespace Go.V
open Go.RowKit
theorem isPrefixOf_one (b : UInt8) (r : Str) : List.isPrefixOf [b] r = true ↔ ∃ t, r = b :: t := by
  cases r with
  | nil => simp
  | cons a t => simp [List.isPrefixOf]; exact eq_comm
theorem splitK_one (b : UInt8) : ∀ (n : Nat) (s : Str), s.length ≤ n → Lib.splitK [b] 0 (Lib.count s [b]) s = splitP b s := by
  intro n
  induction n with
  | zero =>
    intro s hs
    have : s = [] := List.eq_nil_of_length_eq_zero (by omega)
    subst this
    rfl
  | succ n ih =>
    intro s hs
    rcases Lib.index_spec s [b] with ⟨h1, h2⟩ | ⟨i, h1, h2, h3, h4⟩
    · rw [Lib.count_miss h1]
      have hb : b ∉ s := by
        intro hb
        obtain ⟨x, y, rfl⟩ := List.append_of_mem hb
        have := h2 x.length (by simp)
        unfold Lib.occAt at this
        rw [List.drop_left] at this
        simp [List.isPrefixOf] at this
      rw [splitP_free hb]; rfl
    · have h3' : List.isPrefixOf [b] (s.drop i) = true := h3
      obtain ⟨t, ht⟩ := (isPrefixOf_one b _).1 h3'
      have hi : i < s.length := by
        rcases Nat.lt_or_ge i s.length with h | h
        · exact h
        · rw [List.drop_eq_nil_of_le h] at ht; cases ht
      have hs2 : s = s.take i ++ b :: t := by rw [← ht, List.take_append_drop]
      have hb : b ∉ s.take i := by
        intro hb
        obtain ⟨j, hj, e⟩ := List.getElem_of_mem hb
        rw [List.length_take] at hj
        have hlt : j < i := by omega
        have := h4 j hlt
        unfold Lib.occAt at this
        rw [List.drop_eq_getElem_cons (by omega)] at this
        rw [List.getElem_take] at e
        rw [e] at this
        simp [List.isPrefixOf] at this
      have hd : s.drop (i + 1) = t := by
        rw [← List.drop_drop, ht]; rfl
      rw [Lib.count_hit (by simp) h1, Nat.add_comm, Lib.splitK, if_neg (by rw [h1]; simp), h1]
      show s.take (i + 0) :: Lib.splitK [b] 0 (Lib.count (s.drop (i + 1)) [b]) (s.drop (i + 1)) = _
      rw [hd, Nat.add_zero]
      have hlen : t.length ≤ n := by
        have := congrArg List.length hs2
        simp at this; omega
      rw [ih t hlen]
      conv => rhs; rw [hs2]
      rw [splitP_app _ hb]
theorem split_vals (b : UInt8) (s : Str) : ((Lib.splitB (mkS [b]) 0 (Lib.countB (mkS s) (mkS [b])) (mkS s)).map Value.string) = (splitP b s).map fun x => .string (mkS x) := by
  have h := Lib.splitB_data (mkS [b]) 0 (Lib.countB (mkS s) (mkS [b])) (mkS s)
  have e : Lib.countB (mkS s) (mkS [b]) = Lib.count s [b] := rfl
  have e2 : (mkS [b]).data.toList = [b] := rfl
  have e3 : (mkS s).data.toList = s := rfl
  rw [e2, e3] at h
  rw [e] at h ⊢
  rw [splitK_one b s.length s (Nat.le_refl _)] at h
  rw [← h, List.map_map]
  exact List.map_congr_left fun x _ => by simp [mkS_toList]
theorem splitP_len (b : UInt8) (s : Str) : (splitP b s).length ≤ s.length + 1 := by
  induction s with
  | nil => simp [splitP]
  | cons a r ih =>
    unfold splitP
    split
    · simp; omega
    · split
      · rename_i h; rw [h] at ih; simp at ih ⊢; omega
      · simp
theorem split_count (b : UInt8) (s : Str) : Lib.countB (mkS s) (mkS [b]) + 1 = (splitP b s).length := by
  have h := congrArg List.length (split_vals b s)
  rw [List.length_map, List.length_map] at h
  rw [← h]
  exact (Lib.splitB_all (mkS [b]) (Nat.le_refl 1) 0 _ (mkS s) rfl).symm
def pEol (r : Nat) : Bool := decide (r = 13) || decide (r = 10)
theorem eolP_nat (b : UInt8) : eolP b = pEol b.toNat := by
  revert b
  apply all_u8
  decide +kernel
theorem pEol_hi {r : Nat} (h : 128 ≤ r) : pEol r = false := by
  unfold pEol
  simp; omega
theorem eolP_hi {b : UInt8} (h : 128 ≤ b.toNat) : eolP b = false := by rw [eolP_nat]; exact pEol_hi h
theorem take_free {l : Str} {k : Nat} (h : ∀ j, j < k → ∃ hj : j < l.length, eolP l[j] = false) : ∀ b ∈ l.take k, eolP b = false := by
  intro b hb
  obtain ⟨j, hj, e⟩ := List.getElem_of_mem hb
  rw [List.length_take] at hj
  obtain ⟨h1, h2⟩ := h j (by omega)
  rw [List.getElem_take] at e
  rw [← e]; exact h2
theorem getD_hi {l : Str} {j : Nat} (h : 128 ≤ (l.getD j 0).toNat) : ∃ hj : j < l.length, eolP l[j] = false := by
  rw [List.getD_eq_getElem?_getD] at h
  rcases Nat.lt_or_ge j l.length with hj | hj
  · rw [List.getElem?_eq_getElem hj] at h
    exact ⟨hj, eolP_hi h⟩
  · rw [List.getElem?_eq_none hj] at h
    simp at h
theorem decodeN_free (n b0 b1 b2 b3 : Nat) (hn : 1 ≤ n) : (2 ≤ (Lib.decodeN n b0 b1 b2 b3).2 → 128 ≤ b1) ∧ (3 ≤ (Lib.decodeN n b0 b1 b2 b3).2 → 128 ≤ b2) ∧ (4 ≤ (Lib.decodeN n b0 b1 b2 b3).2 → 128 ≤ b3) ∧ ((Lib.decodeN n b0 b1 b2 b3).2 ≤ 4 ∧ (Lib.decodeN n b0 b1 b2 b3).2 ≤ n) ∧ 1 ≤ (Lib.decodeN n b0 b1 b2 b3).2 ∧ (128 ≤ b0 → 128 ≤ (Lib.decodeN n b0 b1 b2 b3).1) := by
  unfold Lib.decodeN
  repeat' split
  all_goals (simp only; omega)
theorem rune_cases (s : ByteArray) (pos : Nat) (h : pos < s.data.toList.length) :
    (∃ b, s.data.toList.drop pos = b :: s.data.toList.drop (pos + 1) ∧ eolP b = true ∧ pEol (Utf8.decode s pos).1 = true ∧ (Utf8.decode s pos).2 = 1) ∨
    (pEol (Utf8.decode s pos).1 = false ∧ 1 ≤ (Utf8.decode s pos).2 ∧ pos + (Utf8.decode s pos).2 ≤ s.data.toList.length ∧ ∀ b ∈ (s.data.toList.drop pos).take (Utf8.decode s pos).2, eolP b = false) := by
  rw [Lib.decode_N]
  generalize s.data.toList = l at *
  have hd : l.drop pos = l[pos] :: l.drop (pos + 1) := List.drop_eq_getElem_cons h
  have h0 : l.getD pos 0 = l[pos] := by rw [List.getD_eq_getElem?_getD, List.getElem?_eq_getElem h]; rfl
  rw [h0]
  by_cases ha : l[pos].toNat < 128
  · rw [Lib.decodeN_ascii _ _ _ _ _ ha]
    by_cases he : eolP l[pos] = true
    · exact .inl ⟨_, hd, he, by rw [← eolP_nat]; exact he, rfl⟩
    · refine .inr ⟨by rw [← eolP_nat]; simpa using he, Nat.le_refl _, by simp; omega, ?_⟩
      intro b hb
      rw [hd] at hb
      have hb : b ∈ [l[pos]] := hb
      have hb := List.mem_singleton.1 hb
      rw [hb]; simpa using he
  · right
    have hcont := decodeN_free (l.length - pos) l[pos].toNat (l.getD (pos + 1) 0).toNat (l.getD (pos + 2) 0).toNat (l.getD (pos + 3) 0).toNat (by omega)
    obtain ⟨c1, c2, c3, c4, c5, c6⟩ := hcont
    refine ⟨pEol_hi (c6 (by omega)), c5, by omega, take_free ?_⟩
    intro j hj
    have hg : ∀ q, (l.drop pos).getD q 0 = l.getD (pos + q) 0 := fun q => Lib.getD_dropU l pos q
    apply getD_hi
    rw [hg]
    rcases Nat.lt_or_ge j 1 with h1 | h1
    · have : j = 0 := by omega
      subst this
      rw [Nat.add_zero, h0]; omega
    · rcases Nat.lt_or_ge j 2 with h2 | h2
      · have : j = 1 := by omega
        subst this
        have := c1 (by omega); omega
      · rcases Nat.lt_or_ge j 3 with h3 | h3
        · have : j = 2 := by omega
          subst this
          have := c2 (by omega); omega
        · have : j = 3 := by omega
          subst this
          have := c3 (by omega); omega
theorem spans_step (s : ByteArray) (f pos : Nat) (st : Option Nat) (acc : List (Nat × Nat)) : Lib.spansFromP pEol s (f + 1) pos st acc = (if pos < s.size then (if pEol (Utf8.decode s pos).1 then (match st with | some a => Lib.spansFromP pEol s f (pos + (Utf8.decode s pos).2) none (acc ++ [(a, pos)]) | none => Lib.spansFromP pEol s f (pos + (Utf8.decode s pos).2) none acc) else (match st with | some a => Lib.spansFromP pEol s f (pos + (Utf8.decode s pos).2) (some a) acc | none => Lib.spansFromP pEol s f (pos + (Utf8.decode s pos).2) (some pos) acc)) else (acc, st)) := rfl
theorem spans_lines (s : ByteArray) : ∀ (f pos : Nat) (st : Option Nat) (acc : List (Nat × Nat)), s.data.toList.length ≤ pos + f → pos ≤ s.data.toList.length → (∀ a, st = some a → a < pos) → (∀ b ∈ Lib.openPiece s.data.toList st pos, eolP b = false) →
    (Lib.closeSpans s (Lib.spansFromP pEol s f pos st acc)).map (fun p => Lib.pieceU s.data.toList p.1 p.2) = acc.map (fun p => Lib.pieceU s.data.toList p.1 p.2) ++ linesP (Lib.openPiece s.data.toList st pos ++ s.data.toList.drop pos) := by
  have hsz : s.size = s.data.toList.length := by cases s; rfl
  have hend : ∀ (f pos : Nat) (st : Option Nat) (acc : List (Nat × Nat)), pos = s.data.toList.length → (∀ a, st = some a → a < pos) → (∀ b ∈ Lib.openPiece s.data.toList st pos, eolP b = false) →
      (Lib.closeSpans s (Lib.spansFromP pEol s f pos st acc)).map (fun p => Lib.pieceU s.data.toList p.1 p.2) = acc.map (fun p => Lib.pieceU s.data.toList p.1 p.2) ++ linesP (Lib.openPiece s.data.toList st pos ++ s.data.toList.drop pos) := by
    intro f pos st acc hp hst hfr
    rw [Lib.spansFromP_end _ _ _ _ _ _ (by omega), List.drop_eq_nil_of_le (by omega), List.append_nil]
    cases st with
    | none => simp [Lib.closeSpans, Lib.openPiece, linesP, splL]
    | some a =>
      have hne := Lib.pieceU_ne s.data.toList a pos (hst a rfl) (by omega)
      have hfr : ∀ b ∈ Lib.pieceU s.data.toList a pos, eolP b = false := hfr
      have hl : linesP (Lib.pieceU s.data.toList a pos) = [Lib.pieceU s.data.toList a pos] := by
        unfold linesP
        rw [splL_free hfr]
        cases hx : Lib.pieceU s.data.toList a pos with
        | nil => exact absurd hx hne
        | cons x r => rfl
      show (acc ++ [(a, s.size)]).map _ = _ ++ linesP (Lib.pieceU s.data.toList a pos)
      rw [hl, hsz, ← hp]; simp
  intro f
  induction f with
  | zero => intro pos st acc h hp hst hfr; exact hend 0 pos st acc (by omega) hst hfr
  | succ f ih =>
    intro pos st acc h hp hst hfr
    by_cases hlt : pos < s.data.toList.length
    · rw [spans_step, if_pos (by omega)]
      rcases rune_cases s pos hlt with ⟨b, hd, hb, hp1, hw⟩ | ⟨hp1, hw1, hw2, hfree⟩
      · rw [if_pos hp1, hw, hd, linesP_eol _ hfr hb]
        cases st with
        | none =>
          have := ih (pos + 1) none acc (by omega) (by omega) (fun a h => by cases h) (by simp [Lib.openPiece])
          simp only
          rw [this]; simp [Lib.openPiece]
        | some a =>
          have hne := Lib.pieceU_ne s.data.toList a pos (hst a rfl) (by omega)
          have := ih (pos + 1) none (acc ++ [(a, pos)]) (by omega) (by omega) (fun a h => by cases h) (by simp [Lib.openPiece])
          simp only
          rw [this]
          have hie : (Lib.pieceU s.data.toList a pos).isEmpty = false := by cases hx : Lib.pieceU s.data.toList a pos with
            | nil => exact absurd hx hne
            | cons x r => rfl
          simp [Lib.openPiece, hie]
      · rw [if_neg (by rw [hp1]; simp)]
        have hsp : s.data.toList.drop pos = (s.data.toList.drop pos).take (Utf8.decode s pos).2 ++ s.data.toList.drop (pos + (Utf8.decode s pos).2) := by
          conv => lhs; rw [← List.take_append_drop (Utf8.decode s pos).2 (s.data.toList.drop pos)]
          rw [List.drop_drop]
        cases st with
        | none =>
          have e : (s.data.toList.drop pos).take (Utf8.decode s pos).2 = Lib.pieceU s.data.toList pos (pos + (Utf8.decode s pos).2) := by
            unfold Lib.pieceU; rw [Nat.add_sub_cancel_left]
          simp only
          rw [ih (pos + (Utf8.decode s pos).2) (some pos) acc (by omega) hw2 (fun a h => by cases h; omega) (by show ∀ b ∈ Lib.pieceU _ _ _, _; rw [← e]; exact hfree)]
          show _ ++ linesP (Lib.pieceU _ _ _ ++ _) = _ ++ linesP ([] ++ _)
          rw [List.nil_append, hsp, e]
        | some a =>
          have e := Lib.pieceU_grow s.data.toList a pos (Utf8.decode s pos).2 (Nat.le_of_lt (hst a rfl))
          simp only
          rw [ih (pos + (Utf8.decode s pos).2) (some a) acc (by omega) hw2 (fun b h => by cases h; have := hst a rfl; omega) (by
            show ∀ b ∈ Lib.pieceU _ _ _, _
            rw [← e]
            intro b hb
            rcases List.mem_append.1 hb with hb | hb
            · exact hfr b hb
            · exact hfree b hb)]
          show _ ++ linesP (Lib.pieceU _ _ _ ++ _) = _ ++ linesP (Lib.pieceU _ _ _ ++ _)
          rw [← e, List.append_assoc, ← hsp]
    · exact hend _ pos st acc (by omega) hst hfr
theorem fields_vals (s : Str) : (Lib.goFieldsP pEol (mkS s)).map Value.string = (linesP s).map fun x => .string (mkS x) := by
  have h := spans_lines (mkS s) s.length 0 none [] (by simp [mkS]) (Nat.zero_le _) (fun a h => by cases h) (by simp [Lib.openPiece])
  have hsz : (mkS s).size = s.length := by simp [mkS, ByteArray.size]
  have e3 : (mkS s).data.toList = s := rfl
  rw [e3] at h
  simp only [List.map_nil, List.nil_append, Lib.openPiece, List.drop_zero] at h
  unfold Lib.goFieldsP Lib.spansOfP
  rw [hsz, ← h, List.map_map, List.map_map]
  apply List.map_congr_left
  intro p _
  simp only [Function.comp]
  have : ((mkS s).extract p.1 p.2).data.toList = Lib.pieceU s p.1 p.2 := by
    rw [Lib.extract_data]; rw [e3]; rfl
  rw [← this, mkS_toList]
theorem fields_len (s : Str) : (Lib.goFieldsP pEol (mkS s)).length = (linesP s).length := by
  have h := congrArg List.length (fields_vals s)
  rwa [List.length_map, List.length_map] at h
end Go.V
set_option linter.unusedSimpArgs false
set_option linter.unusedVariables false
namespace Go.V
open Go.RowKit
def bkL {α : Type} (f : α → Nat) (l : List α) : Nat := (l.map f).sum + 1
def bkS (s : Str) : Nat := s.length + 1
def bkC : Cmp → Nat := bkL bkS
def bkR : Rept → Nat := bkL bkC
def bkF : Fldt → Nat := bkL bkR
def bkG (g : Seg) : Nat := bkS g.name + bkL bkF g.flds + 1
def bkM : List Seg → Nat := bkL bkG
theorem bkL_len {α : Type} {f : α → Nat} (hf : ∀ a, 1 ≤ f a) : ∀ l : List α, l.length + 1 ≤ bkL f l
  | [] => by simp [bkL]
  | a :: l => by have := bkL_len hf l; have := hf a; simp [bkL] at *; omega
theorem bkL_mem {α : Type} {f : α → Nat} {a : α} : ∀ {l : List α}, a ∈ l → f a + 1 ≤ bkL f l
  | b :: l, h => by
    rcases List.mem_cons.1 h with rfl | h
    · simp [bkL] <;> omega
    · have := bkL_mem (f := f) h; simp [bkL] at *; omega
theorem bkL_pos {α : Type} (f : α → Nat) (l : List α) : 1 ≤ bkL f l := by simp [bkL]
theorem SmC_of {c : Cmp} (h : bkC c ≤ BB) : SmC c := ⟨by have := bkL_len (f := bkS) (fun a => by simp [bkS]) c; unfold bkC at h; omega, fun u hu => by
  have := bkL_mem (f := bkS) hu; have e : bkS u = u.length + 1 := rfl; unfold bkC at h; omega⟩
theorem SmR_of {r : Rept} (h : bkR r ≤ BB) : SmR r := ⟨by have := bkL_len (f := bkC) (fun a => bkL_pos _ a) r; unfold bkR at h; omega, fun u hu => SmC_of (by have := bkL_mem (f := bkC) hu; unfold bkR at h; omega)⟩
theorem SmF_of {r : Fldt} (h : bkF r ≤ BB) : SmF r := ⟨by have := bkL_len (f := bkR) (fun a => bkL_pos _ a) r; unfold bkF at h; omega, fun u hu => SmR_of (by have := bkL_mem (f := bkR) hu; unfold bkF at h; omega)⟩
theorem SmG_of {g : Seg} (h : bkG g ≤ BB) : SmG g := by
  unfold bkG at h
  have h1 := bkL_len (f := bkF) (fun a => bkL_pos _ a) g.flds
  exact ⟨by unfold bkS at h; omega, by omega, fun u hu => SmF_of (by have := bkL_mem (f := bkF) hu; omega)⟩
theorem SmM_of {l : List Seg} (h : bkM l ≤ BB) : SmM l := ⟨by have := bkL_len (f := bkG) (fun a => by unfold bkG; omega) l; unfold bkM at h; omega, fun u hu => SmG_of (by have := bkL_mem (f := bkG) hu; unfold bkM at h; omega)⟩
theorem bkL_app {α : Type} (f : α → Nat) (a b : List α) : bkL f (a ++ b) = bkL f a + (b.map f).sum := by
  simp [bkL]; omega
theorem bkL_trim {α : Type} (f : List α → Nat) (l : List (List α)) : bkL f (trimT l) ≤ bkL f l := by
  obtain ⟨e, he, _⟩ := trimT_split l
  conv => rhs; rw [he]
  rw [bkL_app]; omega
theorem bkL_map {α β : Type} {f : β → Nat} {g : α → β} {f' : α → Nat} (h : ∀ a, f (g a) ≤ f' a) : ∀ l : List α, bkL f (l.map g) ≤ bkL f' l
  | [] => Nat.le_refl _
  | a :: l => by
    have h1 := h a
    have h2 := bkL_map h l
    simp [bkL] at *; omega
theorem bkC_can (c : Cmp) : bkC (canC c) ≤ bkC c := bkL_trim bkS c
theorem bkR_can (r : Rept) : bkR (canR r) ≤ bkR r := Nat.le_trans (bkL_trim bkC _) (bkL_map bkC_can r)
theorem bkF_can (f : Fldt) : bkF (canF f) ≤ bkF f := Nat.le_trans (bkL_trim bkR _) (bkL_map bkR_can f)
theorem bkFs_can (l : List Fldt) : bkL bkF (canS l) ≤ bkL bkF l := Nat.le_trans (bkL_trim bkF _) (bkL_map bkF_can l)
theorem bkG_can (g : Seg) : bkG (canG g) ≤ bkG g := by
  have := bkFs_can g.flds
  unfold bkG canG; simp only; omega
theorem bkM_can (l : List Seg) : bkM (canM l) ≤ bkM l := bkL_map bkG_can l
theorem escB_len' (d : Dm) (b : UInt8) : (escB d b).length ≤ 5 := by
  unfold escB
  split
  · simp
  · split <;> simp
theorem escW_len' (d : Dm) : ∀ v : Str, (escW d v).length ≤ 5 * v.length
  | [] => by simp [escW]
  | b :: v => by
    have h1 := escB_len' d b
    have h2 := escW_len' d v
    have e : escW d (b :: v) = escB d b ++ escW d v := by simp [escW]
    rw [e, List.length_append, List.length_cons]; omega
theorem join_len {α : Type} {sep : UInt8} {g : α → Str} {f : α → Nat} (h : ∀ a, (g a).length + 1 ≤ 5 * f a) : ∀ l : List α, (joinP sep (l.map g)).length + 1 ≤ 5 * (l.map f).sum + 1
  | [] => by simp [joinP]
  | [a] => by have := h a; simp [joinP]; omega
  | a :: b :: l => by
    have h1 := h a
    have h2 := join_len (sep := sep) h (b :: l)
    show (g a ++ sep :: joinP sep ((b :: l).map g)).length + 1 ≤ 5 * (f a + ((b :: l).map f).sum) + 1
    simp only [List.length_append, List.length_cons]; omega
theorem prC_len (d : Dm) (c : Cmp) : (prC d c).length + 1 ≤ 5 * bkC c := by
  have := join_len (sep := d.s) (g := escW d) (f := bkS) (fun v => by have := escW_len' d v; unfold bkS; omega) c
  show (joinP d.s (c.map (escW d))).length + 1 ≤ 5 * ((c.map bkS).sum + 1); omega
theorem prR_len (d : Dm) (r : Rept) : (prR d r).length + 1 ≤ 5 * bkR r := by
  have := join_len (sep := d.c) (prC_len d) r
  show (joinP d.c (r.map (prC d))).length + 1 ≤ 5 * ((r.map bkC).sum + 1); omega
theorem prF_len (d : Dm) (f : Fldt) : (prF d f).length + 1 ≤ 5 * bkF f := by
  have := join_len (sep := d.r) (prR_len d) f
  show (joinP d.r (f.map (prR d))).length + 1 ≤ 5 * ((f.map bkR).sum + 1); omega
theorem flds_len (d : Dm) : ∀ l : List Fldt, (fldsP d l).length ≤ 5 * (l.map bkF).sum
  | [] => by simp [fldsP]
  | f :: l => by
    have h1 := prF_len d f
    have h2 := flds_len d l
    have e : fldsP d (f :: l) = d.f :: (prF d f ++ fldsP d l) := by simp [fldsP]
    rw [e, List.length_cons, List.length_append, List.map_cons, List.sum_cons]; omega
theorem sum_drop {α : Type} (f : α → Nat) : ∀ (n : Nat) (l : List α), ((l.drop n).map f).sum ≤ (l.map f).sum
  | 0, l => Nat.le_refl _
  | n + 1, [] => Nat.le_refl _
  | n + 1, a :: l => by
    have := sum_drop f n l
    simp only [List.drop_succ_cons, List.map_cons, List.sum_cons]; omega
def lnAt (d : Dm) (i : Nat) (g : Seg) : Str := if i = 0 then line0 d g else lineR d g
theorem lnAt_len (d : Dm) (i : Nat) (g : Seg) : (lnAt d i g).length ≤ 8 + 5 * bkG g := by
  have h1 := flds_len d g.flds
  have h2 := flds_len d (g.flds.drop 2)
  have h3 := sum_drop bkF 2 g.flds
  unfold lnAt bkG bkS bkL
  split
  · unfold line0; rw [List.length_append]; simp only [List.length_cons, List.length_nil]; omega
  · unfold lineR; rw [List.length_append]; omega
def prU (d : Dm) (l : List Seg) : Nat → Str
  | 0 => []
  | j + 1 => prU d l j ++ (match l[j]? with
    | some g => lnAt d j g ++ [13]
    | none => [])
theorem prU_le (d : Dm) (l : List Seg) (j : Nat) : ∀ n, (prU d l j).length ≤ (prU d l (j + n)).length
  | 0 => Nat.le_refl _
  | n + 1 => by
    have := prU_le d l j n
    rw [← Nat.add_assoc]
    show _ ≤ (prU d l (j + n) ++ _).length
    rw [List.length_append]; omega
theorem prU_cons (d : Dm) (g : Seg) (gs : List Seg) : ∀ j, j ≤ gs.length → prU d (g :: gs) (j + 1) = line0 d g ++ 13 :: (gs.take j).flatMap fun g => lineR d g ++ [13]
  | 0, _ => by simp [prU, lnAt]
  | j + 1, h => by
    have ih := prU_cons d g gs j (by omega)
    show prU d (g :: gs) (j + 1) ++ _ = _
    rw [ih]
    have hj : j < gs.length := by omega
    have e : (g :: gs)[j + 1]? = some gs[j] := by simp [hj]
    have e2 : ((gs.take (j + 1)).flatMap fun g => lineR d g ++ [13]) = ((gs.take j).flatMap fun g => lineR d g ++ [13]) ++ (lineR d gs[j] ++ [13]) := by
      rw [List.take_succ_eq_append_getElem hj, List.flatMap_append]; simp only [List.flatMap_cons, List.flatMap_nil, List.append_nil]
    rw [e, e2]
    simp [lnAt]
theorem prU_all (d : Dm) (l : List Seg) : prU d (canM l) (canM l).length = printP d l := by
  unfold printP
  cases h : canM l with
  | nil => rfl
  | cons g gs =>
    show prU d (g :: gs) (gs.length + 1) = _
    rw [prU_cons d g gs gs.length (Nat.le_refl _), List.take_length]
end Go.V
set_option linter.unusedSimpArgs false
set_option linter.unusedVariables false
namespace Go.V
open Go.RowKit
theorem cut_index (e : UInt8) : ∀ r : Str, (Lib.indexByte r e = -1 ∧ cutE e r = none) ∨ ∃ n : Nat, Lib.indexByte r e = n ∧ n < r.length ∧ cutE e r = some (r.take n, r.drop (n + 1))
  | [] => .inl ⟨rfl, rfl⟩
  | b :: r => by
    unfold Lib.indexByte cutE
    by_cases h : b = e
    · subst h
      exact .inr ⟨0, by simp, by simp, by simp⟩
    · rw [if_neg (by simpa using h), if_neg h]
      rcases cut_index e r with ⟨h1, h2⟩ | ⟨n, h1, h2, h3⟩
      · exact .inl ⟨by rw [h1]; rfl, by rw [h2]; rfl⟩
      · refine .inr ⟨n + 1, ?_, by simp; omega, by rw [h3]; rfl⟩
        rw [h1, if_neg (by simp <;> omega)]; push_cast; rfl
theorem readP_cons (d : Dm) (b : UInt8) (r : Str) : readP d (b :: r) = if b = d.e then (match cutE d.e r with
      | some (w, x) => (match meantP d w with
        | some m => m ++ readP d x
        | none => b :: readP d r)
      | none => b :: readP d r) else b :: readP d r := by
  have e : readP d (b :: r) = if b = d.e then (match cutE d.e r with
      | some (w, x) => (match meantP d w with
        | some m => m ++ readF d r.length x
        | none => b :: readF d r.length r)
      | none => b :: readF d r.length r) else b :: readF d r.length r := rfl
  rw [e]
  by_cases hb : b = d.e
  · rw [if_pos hb, if_pos hb]
    cases hc : cutE d.e r with
    | none => rfl
    | some y =>
      obtain ⟨w, x⟩ := y
      have hx := (cutE_len hc).1
      have hl : x.length ≤ r.length := by rw [hx]; simp; omega
      simp only
      rw [readF_fuel d r.length x hl r.length x.length hl (Nat.le_refl _)]
      rfl
  · rw [if_neg hb, if_neg hb]; rfl
theorem unhexP_app : ∀ (a b : Str), a.length % 2 = 0 → unhexP (a ++ b) = (unhexP a).bind fun x => (unhexP b).map fun y => x ++ y
  | [], b, _ => by
    show unhexP b = (some []).bind _
    simp
  | [x], b, h => by simp at h
  | x :: y :: a, b, h => by
    have ih := unhexP_app a b (by simp at h; omega)
    have step : ∀ r, unhexP (x :: y :: r) = match nibP x, nibP y with
        | some p, some q => (unhexP r).map ((p <<< 4 ||| q) :: ·)
        | _, _ => none := fun _ => rfl
    rw [List.cons_append, List.cons_append, step, step]
    cases nibP x with
    | none => rfl
    | some p =>
      cases nibP y with
      | none => rfl
      | some q =>
        simp only
        rw [ih]
        cases unhexP a with
        | none => rfl
        | some l =>
          cases unhexP b with
          | none => rfl
          | some m => rfl
theorem unhexP_len : ∀ {h l : Str}, unhexP h = some l → 2 * l.length = h.length
  | [], l, h => by simp [unhexP] at h; subst h; rfl
  | [_], l, h => by simp [unhexP] at h
  | x :: y :: a, l, h => by
    unfold unhexP at h
    cases hx : nibP x with
    | none => rw [hx] at h; simp at h
    | some p =>
      cases hy : nibP y with
      | none => rw [hx, hy] at h; simp at h
      | some q =>
        rw [hx, hy] at h
        simp only [Option.map_eq_some_iff] at h
        obtain ⟨m, hm, rfl⟩ := h
        have := unhexP_len hm
        simp only [List.length_cons]; omega
theorem meantP_len {d : Dm} {w m : Str} (h : meantP d w = some m) : m.length ≤ w.length + 1 := by
  unfold meantP at h
  split at h
  · cases h; simp
  · split at h
    · rename_i hh
      split at h
      · rename_i b r hu
        cases h
        have := unhexP_len hu
        simp only [List.length_cons] at *; omega
      · cases h
    · cases h
theorem readP_len (d : Dm) : ∀ (n : Nat) (s : Str), s.length ≤ n → (readP d s).length ≤ s.length
  | _, [], _ => by simp [readP, readF]
  | 0, b :: r, h => by simp at h
  | n + 1, b :: r, h => by
    simp only [List.length_cons] at h
    have h0 := readP_len d n r (by omega)
    rw [readP_cons]
    split
    · cases hc : cutE d.e r with
      | none => simp only [List.length_cons]; omega
      | some y =>
        obtain ⟨w, x⟩ := y
        have hx := congrArg List.length (cutE_len hc).1
        simp only [List.length_append, List.length_cons] at hx
        simp only
        cases hm : meantP d w with
        | none => simp only [List.length_cons]; omega
        | some m =>
          have h1 := meantP_len hm
          have h2 := readP_len d n x (by omega)
          simp only [List.length_append, List.length_cons]; omega
    · simp only [List.length_cons]; omega
theorem meantP_two (d : Dm) (p : Str) (h0 : signP d p = 0) : meantP d p = if ([88] : Str).isPrefixOf p = true then (match unhexP (p.drop 1) with
    | some (b :: r) => some (b :: r)
    | _ => none) else none := by
  unfold meantP
  rw [if_neg (by rw [h0]; simp)]
  cases p with
  | nil => rfl
  | cons a r =>
    by_cases ha : a = 88
    · subst ha; rfl
    · rw [if_neg (by simp [List.isPrefixOf]; exact fun e => ha e.symm)]
      split
      · rename_i h e; simp at e; exact absurd e.1 ha
      · rfl
end Go.V
set_option linter.unusedSimpArgs false
set_option linter.unusedVariables false
namespace Go.V
open Go.RowKit
theorem lines_head {t : Str} {d : Dm} (h : ofP t = some d) : ∃ y ps, linesP t = ([77, 83, 72, d.f, d.c, d.r, d.e, d.s] ++ y) :: ps := by
  obtain ⟨ok, r, rfl, _⟩ := ofP_some h
  obtain ⟨y, l, h1, h2⟩ := splL_pre (x := [77, 83, 72, d.f, d.c, d.r, d.e, d.s]) r (hd_free ok)
  have e : linesP (77 :: 83 :: 72 :: d.f :: d.c :: d.r :: d.e :: d.s :: r) = ([77, 83, 72, d.f, d.c, d.r, d.e, d.s] ++ y) :: l.filter fun x => !x.isEmpty := by
    unfold linesP
    have h2 : splL (77 :: 83 :: 72 :: d.f :: d.c :: d.r :: d.e :: d.s :: r) = ([77, 83, 72, d.f, d.c, d.r, d.e, d.s] ++ y) :: l := h2
    rw [h2, List.filter_cons, if_pos (by rfl)]
  exact ⟨y, _, e⟩
theorem split_two {d : Dm} (h : OkD d) (y : Str) : 2 ≤ (splitP d.f ([77, 83, 72, d.f, d.c, d.r, d.e, d.s] ++ y)).length := by
  have hm := h.mf
  have hfree : d.f ∉ ([77, 83, 72] : Str) := by
    intro x
    simp at x
    rcases x with x | x | x <;> (rw [x] at hm; revert hm; decide)
  have e : ([77, 83, 72, d.f, d.c, d.r, d.e, d.s] ++ y) = ([77, 83, 72] : Str) ++ d.f :: ([d.c, d.r, d.e, d.s] ++ y) := rfl
  rw [e, splitP_app _ hfree, List.length_cons]
  have := splitP_ne d.f ([d.c, d.r, d.e, d.s] ++ y)
  have : 0 < (splitP d.f ([d.c, d.r, d.e, d.s] ++ y)).length := List.length_pos_iff.2 this
  omega
theorem lines_sub : ∀ (t p : Str), p ∈ linesP t → p.length ≤ t.length := by
  have key : ∀ (t p : Str), p ∈ splL t → p.length ≤ t.length := by
    intro t
    induction t with
    | nil => intro p h; simp [splL] at h; subst h; exact Nat.le_refl _
    | cons a r ih =>
      intro p h
      unfold splL at h
      split at h
      · rcases List.mem_cons.1 h with rfl | h
        · simp
        · have := ih p h; simp; omega
      · split at h
        · rename_i x l hx
          rcases List.mem_cons.1 h with rfl | h
          · have := ih x (by rw [hx]; simp); simp; omega
          · have := ih p (by rw [hx]; simp [h]); simp; omega
        · simp at h; subst h; simp
  intro t p h
  exact key t p (List.mem_filter.1 h).1
theorem lines_len (t : Str) : (linesP t).length ≤ t.length + 1 := by
  have key : (splL t).length ≤ t.length + 1 := by
    induction t with
    | nil => simp [splL]
    | cons a r ih =>
      unfold splL
      split
      · simp; omega
      · split
        · rename_i h; rw [h] at ih; simp at ih ⊢; omega
        · simp
  exact Nat.le_trans (List.length_filter_le _ _) key
def okL (nm : Str → Bool) (d : Dm) (j : Nat) (p : Str) : Bool := lnOk nm d p && (decide (j = 0) || !(msh.isPrefixOf p))
theorem lnsOk_all {nm : Str → Bool} {d : Dm} {ps : List Str} (h : ∀ j (hj : j < ps.length), okL nm d j ps[j] = true) : lnsOk nm d ps = true := by
  cases ps with
  | nil => rfl
  | cons p ps =>
    show (lnOk nm d p && ps.all fun q => lnOk nm d q && !(msh.isPrefixOf q)) = true
    have h0 := h 0 (by simp)
    unfold okL at h0
    simp only [Bool.and_eq_true, List.all_eq_true] at h0 ⊢
    refine ⟨h0.1, fun q hq => ?_⟩
    obtain ⟨i, hi, rfl⟩ := List.getElem_of_mem hq
    have := h (i + 1) (by simp; omega)
    unfold okL at this
    simpa using this
theorem lnsOk_bad {nm : Str → Bool} {d : Dm} {ps : List Str} {j : Nat} (hj : j < ps.length) (h : okL nm d j ps[j] = false) : lnsOk nm d ps = false := by
  cases ps with
  | nil => simp at hj
  | cons p ps =>
    show (lnOk nm d p && ps.all fun q => lnOk nm d q && !(msh.isPrefixOf q)) = false
    cases j with
    | zero =>
      unfold okL at h
      have h : lnOk nm d p = false := by simpa using h
      rw [h]; rfl
    | succ j =>
      have hj : j < ps.length := by simpa using hj
      have h : (lnOk nm d ps[j] && !(msh.isPrefixOf ps[j])) = false := by
        unfold okL at h
        simpa using h
      have : (ps.all fun q => lnOk nm d q && !(msh.isPrefixOf q)) = false := by
        rw [List.all_eq_false]
        exact ⟨ps[j], List.getElem_mem hj, by rw [h]; simp⟩
      rw [this, Bool.and_false]
def segAt (d : Dm) (j : Nat) (p : Str) : Seg := if j = 0 then seg0 d p else segR d p
def lnBadAt (d : Dm) (j : Nat) (p : Str) : Bool := if j = 0 then lnBad0 d p else lnBadR d p
def sgU (d : Dm) (ps : List Str) : Nat → List Seg
  | 0 => []
  | j + 1 => sgU d ps j ++ (match ps[j]? with
    | some p => [segAt d j p]
    | none => [])
def bdU (d : Dm) (ps : List Str) (x : Bool) : Nat → Bool
  | 0 => x
  | j + 1 => bdU d ps x j || (match ps[j]? with
    | some p => lnBadAt d j p
    | none => false)
theorem sgU_cons (d : Dm) (p : Str) (ps : List Str) : ∀ j, j ≤ ps.length → sgU d (p :: ps) (j + 1) = seg0 d p :: (ps.take j).map (segR d)
  | 0, _ => by simp [sgU, segAt]
  | j + 1, h => by
    have ih := sgU_cons d p ps j (by omega)
    have hj : j < ps.length := by omega
    have e : (p :: ps)[j + 1]? = some ps[j] := by simp [hj]
    show sgU d (p :: ps) (j + 1) ++ _ = _
    rw [ih, e, List.take_succ_eq_append_getElem hj, List.map_append]
    rfl
theorem sgU_all (d : Dm) (ps : List Str) : sgU d ps ps.length = segsP d ps := by
  cases ps with
  | nil => rfl
  | cons p ps =>
    show sgU d (p :: ps) (ps.length + 1) = _
    rw [sgU_cons d p ps ps.length (Nat.le_refl _), List.take_length]; rfl
theorem sgU_len (d : Dm) (ps : List Str) : ∀ j, (sgU d ps j).length ≤ j
  | 0 => by simp [sgU]
  | j + 1 => by
    have := sgU_len d ps j
    show (sgU d ps j ++ _).length ≤ _
    rw [List.length_append]
    split <;> simp <;> omega
theorem bdU_cons (d : Dm) (x : Bool) (p : Str) (ps : List Str) : ∀ j, j ≤ ps.length → bdU d (p :: ps) x (j + 1) = (x || (lnBad0 d p || (ps.take j).any (lnBadR d)))
  | 0, _ => by simp [bdU, lnBadAt]
  | j + 1, h => by
    have ih := bdU_cons d x p ps j (by omega)
    have hj : j < ps.length := by omega
    have e : (p :: ps)[j + 1]? = some ps[j] := by simp [hj]
    show (bdU d (p :: ps) x (j + 1) || _) = _
    rw [ih, e, List.take_succ_eq_append_getElem hj, List.any_append]
    simp [lnBadAt, Bool.or_assoc]
theorem bdU_all (d : Dm) (ps : List Str) : bdU d ps (decide (200 < ps.length)) ps.length = longP d ps := by
  cases ps with
  | nil => rfl
  | cons p ps =>
    show bdU d (p :: ps) _ (ps.length + 1) = _
    rw [bdU_cons d _ p ps ps.length (Nat.le_refl _), List.take_length]; rfl
end Go.V
