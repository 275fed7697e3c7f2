/- Messages of one's own. -/
import Derived.Test.YthpeengmcjpknaaGreatDoorPM2
import Derived.Test.YthpeengmcjpknaaGreatDoorPSS
import Derived.Test.YthpeengmcjpknaaGreatDoorPVR
set_option linter.unusedSimpArgs false
set_option linter.unusedVariables false
namespace Go.Proofs.YthpeengmcjpknaaGreatDoor
open Go.V Go.RowKit
def EC : EP Cmp := ESl 9 1 (fun _ => EStr)
def ER : EP Rept := ESl 80 1 (fun _ => EC)
def EF : EP Fldt := ESl 38 1 (fun _ => ER)
def EG : EP Seg := ESg 44 EF
theorem EC.st : ESt EC := ESl.st fun _ => EStr.st
theorem ER.st : ESt ER := ESl.st fun _ => EC.st
theorem EF.st : ESt EF := ESl.st fun _ => ER.st
theorem EG.st : ESt EG := ESg.st EF.st
abbrev OwC (w : World) (s : Sl) (l : Cmp) (F : Nat → Prop) : Prop := Own 9 1 (fun _ => EStr) w s l F
abbrev OwR (w : World) (s : Sl) (l : Rept) (F : Nat → Prop) : Prop := Own 80 1 (fun _ => EC) w s l F
abbrev OwF (w : World) (s : Sl) (l : Fldt) (F : Nat → Prop) : Prop := Own 38 1 (fun _ => ER) w s l F
abbrev OwS (w : World) (s : Sl) (l : List Fldt) (F : Nat → Prop) : Prop := Own 44 1 (fun _ => EF) w s l F
abbrev OwM (w : World) (s : Sl) (l : List Seg) (F : Nat → Prop) : Prop := Own 79 2 (fun _ => EG) w s l F
section
variable {w : World} {F : Nat → Prop} {s : Sl}
theorem OwR.rd {l : Rept} (h : OwR w s l F) : RdL 1 RC w s l := Own.rdSl h fun _ _ _ h => h.rdStr
theorem OwF.rd {l : Fldt} (h : OwF w s l F) : RdL 1 RR w s l := Own.rdSl h fun _ _ _ h => OwR.rd h
theorem OwS.rd {l : List Fldt} (h : OwS w s l F) : RdL 1 RF w s l := Own.rdSl h fun _ _ _ h => OwF.rd h
theorem OwM.rd {l : List Seg} (h : OwM w s l F) : RM w s l := by
  refine Own.rd h (by omega) fun i hi cs o a he hc => ?_
  obtain ⟨x, rfl, hx⟩ := he
  exact ⟨hc 0 _ (by omega) rfl, x, hc 1 _ (by omega) rfl, OwS.rd hx⟩
end
theorem kU66 : Tryz.prog.underlying 80 = some (.slice 9) := by kernel_rfl
theorem kU65 : Tryz.prog.underlying 38 = some (.slice 80) := by kernel_rfl
theorem kU64 : Tryz.prog.underlying 44 = some (.slice 38) := by kernel_rfl
theorem kU47 : Tryz.prog.underlying 45 = some (.slice 44) := by kernel_rfl
theorem kU34 : Tryz.prog.underlying 24 = some (.slice 79) := by kernel_rfl
theorem kS9 : Sz Tryz.prog 9 1 := Sz.mk (by kernel_rfl)
theorem kS66 : Sz Tryz.prog 80 1 := Sz.mk (by kernel_rfl)
theorem kS65 : Sz Tryz.prog 38 1 := Sz.mk (by kernel_rfl)
theorem kS64 : Sz Tryz.prog 44 1 := Sz.mk (by kernel_rfl)
theorem kS49 : Sz Tryz.prog 79 2 := Sz.mk (by kernel_rfl)
theorem kZ9 : Zr Tryz.prog 9 (.string (mkS [])) := Zr.mk (by kernel_rfl)
theorem kZ66 : Zr Tryz.prog 80 (.slice none 0 0) := Zr.mk (by kernel_rfl)
theorem kZ65 : Zr Tryz.prog 38 (.slice none 0 0) := Zr.mk (by kernel_rfl)
theorem kZ64 : Zr Tryz.prog 44 (.slice none 0 0) := Zr.mk (by kernel_rfl)
theorem kZ49 : Zr Tryz.prog 79 (.agg (List.toArray [.string (mkS []), .slice none 0 0])) := Zr.mk (by kernel_rfl)
theorem kB9 : Bts Tryz.prog 9 16 := Bts.mk (by kernel_rfl)
theorem kB66 : Bts Tryz.prog 80 24 := Bts.mk (by kernel_rfl)
theorem kB65 : Bts Tryz.prog 38 24 := Bts.mk (by kernel_rfl)
theorem kB64 : Bts Tryz.prog 44 24 := Bts.mk (by kernel_rfl)
theorem kB49 : Bts Tryz.prog 79 40 := Bts.mk (by kernel_rfl)
theorem take_snoc {α : Type} {l : List α} {j : Nat} (hj : j < l.length) : l.take (j + 1) = l.take j ++ [l[j]] := List.take_succ_eq_append_getElem hj
theorem cell1 {w : World} {b : Nat} {T : TypeId} {v : Value} (h : Blk w b T [v]) : ∀ j u, [v][j]? = some u → w.cell? ((⟨b, 0, none⟩ : Addr).add j) = some u := by
  intro j u hu
  rw [add_mk, Nat.zero_add]; exact h.cell hu
theorem cells2 {w : World} {b : Nat} {T : TypeId} {cs : List Value} (h : Blk w b T cs) : ∀ j u, cs[j]? = some u → w.cell? ((⟨b, 0, none⟩ : Addr).add j) = some u := by
  intro j u hu
  rw [add_mk, Nat.zero_add]; exact h.cell hu
theorem ats5 {w : World} {b : Nat} {m : Mh} (h : Blk w b 26 (mc m)) : cellsAt w ⟨b, 0, none⟩ 0 [.int .u8 m.d1, .int .u8 m.d2, .int .u8 m.d3, .int .u8 m.d4, .int .u8 m.d5] := by
  refine h.ats _ 0 0 (fun q v hq => ?_)
  have : q < 5 := by have := (List.getElem?_eq_some_iff.1 hq).1; simpa using this
  have h5 : q = 0 ∨ q = 1 ∨ q = 2 ∨ q = 3 ∨ q = 4 := by omega
  rcases h5 with rfl | rfl | rfl | rfl | rfl <;> exact hq
theorem at0 {w : World} {α : Type} {sz : Nat} {R : World → Addr → α → Prop} {s : Sl} {x : α} {l : List α} (h : RdL sz R w s (x :: l)) : ∃ a, s.base = some a ∧ ((0 : Int) ≤ (0 : Int) ∧ (0 : Int) < (s.len : Int)) ∧ R w (a.add (0 * sz)) x := by
  obtain ⟨a, ha, hr⟩ := h.2 0 (by simp)
  have := h.1
  exact ⟨a, ha, ⟨by omega, by rw [this]; simp only [List.length_cons]; omega⟩, hr⟩
theorem nthD_nil {α : Type} (n : Int) : nthD ([] : List (List α)) n = [] := nthD_out (by simp; omega)
theorem nthD_gt {α : Type} {l : List (List α)} {n : Int} (h : (l.length : Int) < n) : nthD l n = [] := nthD_out (by omega)
theorem valid_in {p : Pa} (h : validP p = true) (h0 : p.fld ≠ 0) : (1 ≤ p.fld ∧ p.fld ≤ 200) ∧ (1 ≤ p.rep ∧ p.rep ≤ 200) ∧ (1 ≤ p.cmp ∧ p.cmp ≤ 200) ∧ (1 ≤ p.sub ∧ p.sub ≤ 200) := by
  unfold validP at h
  simp only [Bool.and_eq_true, Bool.or_eq_true] at h
  rcases h.2 with hh | hh
  · exfalso; apply h0; rw [plain_eq hh]
  · exact ⟨inR_bnd hh.1, inR_bnd hh.2.1, inR_bnd hh.2.2.1, inR_bnd hh.2.2.2⟩
end Go.Proofs.YthpeengmcjpknaaGreatDoor
