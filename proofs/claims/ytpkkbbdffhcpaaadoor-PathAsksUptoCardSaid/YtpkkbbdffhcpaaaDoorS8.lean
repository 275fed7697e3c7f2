/- A number behind a sign. -/
import Derived.Test.YtpkkbbdffhcpaaaDoorS7
set_option linter.unusedSimpArgs false
set_option linter.unusedVariables false
namespace Go.Proofs.YtpkkbbdffhcpaaaDoor
open Go.V Go.RowKit
theorem tw_split (p : UInt8 → Bool) : ∀ (x : Str) (j : Nat), j ≤ x.length → (x.take j).all p = true → (∀ h : j < x.length, p x[j] = false) → x.takeWhile p = x.take j ∧ x.dropWhile p = x.drop j
  | [], j, hj, _, _ => by simp
  | c :: x, 0, _, _, h => by
    have := h (by simp)
    simp at this
    simp [this]
  | c :: x, j + 1, hj, ha, h => by
    simp only [List.take_succ_cons, List.all_cons, Bool.and_eq_true] at ha
    obtain ⟨h1, h2⟩ := tw_split p x j (by simpa using hj) ha.2 (fun hh => by have := h (by simpa using hh); simpa using this)
    simp [ha.1, h1, h2]
theorem dig_dec (c : UInt8) : (decide ((48 : Int) ≤ (c.toNat : Int)) && decide ((c.toNat : Int) ≤ 57)) = isDig c := by
  unfold isDig
  by_cases h1 : (48 : Int) ≤ (c.toNat : Int) <;> by_cases h2 : (c.toNat : Int) ≤ 57 <;> simp [h1, h2] <;> omega
/-- What the program's reader makes of its text at a sign. -/
def rnum (op en s : Str) (bad : Bool) : Int × Str × Bool :=
  if op.isPrefixOf s then
    ((numOf ((s.drop op.length).takeWhile isDig)).1,
     (if en.isPrefixOf ((s.drop op.length).dropWhile isDig) then ((s.drop op.length).dropWhile isDig).drop en.length else (s.drop op.length).dropWhile isDig),
     (bad || ((numOf ((s.drop op.length).takeWhile isDig)).2 != 0 || (decide ((numOf ((s.drop op.length).takeWhile isDig)).1 < 1) || (decide (200 < (numOf ((s.drop op.length).takeWhile isDig)).1) || !(en.isPrefixOf ((s.drop op.length).dropWhile isDig)))))))
  else (1, s, bad)
section
variable {w : World} {k : Value → World → Prop}
theorem setB {w : World} (b j : Nat) (v : Value) : Fr (fun g => g = b) w (w.setCell ⟨b, j, none⟩ v) := (Fr.refl (fun g => g = b) w).set (a := ⟨b, j, none⟩) (fun _ => rfl) v
theorem rnum_spec {b : Nat} {T : TypeId} (op en s : Str) (bad : Bool) (hs : s.length ≤ 1000000000000000) (hB : Blk w b T [.string (mkS s), .bool bad])
    (hk : ∀ w', Blk w' b T [.string (mkS (rnum op en s bad).2.1), .bool (rnum op en s bad).2.2] → Fr (fun g => g = b) w w' → k (.int .i64 (rnum op en s bad).1) w') :
    Cl Tryd.prog 27 [.pointer (some ⟨b, 0, none⟩), .string (mkS op), .string (mkS en)] w k := by
  refine f27_ok ?_
  unfold f27
  refine ⟨_, rfl, s, hB.cell rfl, cutPrefix_spec s op ⟨_, _, rfl, fun h => ?_, fun h => ?_⟩⟩
  · have h := (Bool.not_eq_true' _).mp h
    have e : rnum op en s bad = (1, s, bad) := by unfold rnum; rw [if_neg (by rw [h]; simp)]
    have := hk w (by rw [e]; exact hB) (Fr.refl _ _)
    rw [e] at this; exact this
  have h := (Bool.not_eq_false' _).mp h
  rw [if_pos h]
  generalize hx : s.drop op.length = x
  have hxl : x.length ≤ 1000000000000000 := by rw [← hx]; simp; omega
  refine ⟨fun m n w' => ∃ j : Nat, n = j ∧ j ≤ x.length ∧ m = x.length - j ∧ w' = w ∧ (x.take j).all isDig = true, ⟨x.length, 0, rfl, by omega, by omega, rfl, rfl⟩, ?_⟩
  rintro m n w1 ⟨j, rfl, hj, rfl, rfl, hall⟩
  refine ⟨fun v w' => w' = w1 ∧ (v = true → ∃ hh : j < x.length, isDig x[j] = true) ∧ (v = false → ∀ hh : j < x.length, isDig x[j] = false), ?_, fun hlt => ?_, fun hge => ⟨rfl, by simp, fun _ hh => by have := of_decide_eq_false hge; omega⟩⟩
  case refine_2 =>
    have hjl : j < x.length := by have := of_decide_eq_true hlt; omega
    have e1 : x.getD ((j : Int)).toNat 0 = x[j] := by simp [hjl]
    rw [e1]
    refine ⟨⟨by omega, by omega⟩, fun h1 => ⟨⟨by omega, by omega⟩, rfl, fun h2 => ⟨hjl, ?_⟩, fun h2 _ => ?_⟩, fun h1 => ⟨rfl, by simp, fun _ _ => ?_⟩⟩
    · rw [← dig_dec, h1, h2]; rfl
    · rw [← dig_dec, h1, h2]; rfl
    · rw [← dig_dec, h1]; rfl
  rintro v w2 ⟨rfl, hv1, hv2⟩
  refine ⟨fun hv => ?_, fun hv => ⟨⟨by omega, by omega, by omega⟩, ?_⟩⟩
  · obtain ⟨hh, hd⟩ := hv1 hv
    refine ⟨x.length - (j + 1), by omega, j + 1, by rw [w64_id (by omega) (by omega)]; push_cast; rfl, by omega, rfl, rfl, ?_⟩
    rw [List.take_succ_eq_append_getElem hh, List.all_append, hall]; simp [hd]
  obtain ⟨t1, t2⟩ := tw_split isDig x j hj hall (hv2 hv)
  have es : sub x 0 (j : Int) = x.takeWhile isDig := by rw [t1]; simp [sub]
  have ed : sub x (j : Int) (x.length : Int) = x.dropWhile isDig := by rw [sub_suf, t2]
  rw [es, ed]
  have hr : rnum op en s bad = ((numOf (x.takeWhile isDig)).1, (if en.isPrefixOf (x.dropWhile isDig) then (x.dropWhile isDig).drop en.length else x.dropWhile isDig),
     (bad || ((numOf (x.takeWhile isDig)).2 != 0 || (decide ((numOf (x.takeWhile isDig)).1 < 1) || (decide (200 < (numOf (x.takeWhile isDig)).1) || !(en.isPrefixOf (x.dropWhile isDig))))))) := by
    unfold rnum; rw [if_pos h, hx]
  refine number_spec _ (by rw [t1]; simp; omega) ⟨_, _, rfl, ⟨by omega, by omega, by omega⟩, cutPrefix_spec _ en ⟨_, _, rfl, ?_⟩⟩
  generalize hnv : numOf (x.takeWhile isDig) = nv at hr ⊢
  generalize hpe : en.isPrefixOf (x.dropWhile isDig) = pe at hr ⊢
  refine ⟨fun w' => Blk w' b T [.string (mkS s), .bool (rnum op en s bad).2.2] ∧ Fr (fun g => g = b) w2 w', ?_, ?_⟩
  · rintro w3 ⟨hB3, f3⟩
    refine ⟨_, rfl, hB3.isS (by simp), hB3.free 0, ?_⟩
    rintro w4 rfl
    have := hk _ (by have := hB3.set 0 (.string (mkS (rnum op en s bad).2.1)); rw [hr] at this ⊢; exact this) (f3.trans' (setB b 0 _))
    rw [hr] at this; exact this
  have fin : ∀ nb : Bool, nb = (rnum op en s bad).2.2 → ((w2.cell? ((⟨b, 0, none⟩ : Addr).add 1)).isSome = true ∧ w2.frozen? ((⟨b, 0, none⟩ : Addr).add 1) = false ∧ ∀ w4, w4 = w2.setCell ((⟨b, 0, none⟩ : Addr).add 1) (.bool nb) → Blk w4 b T [.string (mkS s), .bool (rnum op en s bad).2.2] ∧ Fr (fun g => g = b) w2 w4) := by
    rintro nb rfl
    rw [add_mk]
    refine ⟨hB.isS (by simp), hB.free _, ?_⟩
    rintro w4 rfl
    exact ⟨hB.set 1 _, setB b 1 _⟩
  refine ⟨_, rfl, bad, by rw [add_mk]; exact hB.cell rfl, fun h1 => ⟨_, rfl, fin true ?_⟩, fun h1 => ⟨fun h2 => ⟨_, rfl, fin true ?_⟩, fun h2 => ⟨fun h3 => ⟨_, rfl, fin true ?_⟩, fun h3 => ⟨fun h4 => ⟨_, rfl, fin true ?_⟩, fun h4 => ⟨_, rfl, fin _ ?_⟩⟩⟩⟩⟩ <;> rw [hr] <;> simp [*]
end
end Go.Proofs.YtpkkbbdffhcpaaaDoor
