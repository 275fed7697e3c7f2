/- The law PathBack. -/
import Derived.Test.YtpkkbbdffhcpaaaDoorSL
set_option linter.unusedSimpArgs false
set_option linter.unusedVariables false
namespace Go.Proofs.YtpkkbbdffhcpaaaDoor
open Go.V Go.RowKit
theorem printP_len (p : Pa) : (printP p).length ≤ 200 := by
  by_cases h : validP p = true
  · rw [printP_tail h]
    have hn : isName p.seg = true := by unfold validP at h; simp only [Bool.and_eq_true] at h; exact h.1.1
    have h3 := isName_len hn
    have b1 := br_len p.occ
    have b2 := br_len p.rep
    have b3 := dec_len p.fld.toNat
    have b4 := dt_len (decide (1 < p.cmp) || decide (1 < p.sub)) p.cmp
    have b5 := dt_len (decide (1 < p.sub)) p.sub
    unfold tailP; split <;> simp only [List.length_append, List.length_cons] <;> omega
  · unfold printP; rw [if_neg h]; simp
section
variable {w : World} {k : Value → World → Prop}
theorem back_spec (p : Pa) (s : Str) (hp : p.seg.length ≤ 1000000000000000) (hs : s.length ≤ 1000000000000000) (hk : ∀ w', Fr Non w w' → k (.bool true) w') : Cl Tryd.prog 4 [.agg (List.toArray (pc p)), .string (mkS s)] w k := by
  refine f4_ok ?_
  unfold f4
  intro b8 w9 hb8 hw9
  have f9 : Fr Non w w9 := hw9 ▸ (Fr.refl Non w).alloc _
  have hA : Blk w9 b8 23 (pc p) := hb8 ▸ hw9 ▸ Blk.new w (pc p) 23
  refine ⟨fun _ => alive_spec fun w1 g1 => ⟨_, rfl, hk _ (f9.trans' g1)⟩, fun _ => ⟨fun w' => Fr Non w w', ?_, ?_⟩⟩
  · rintro w14 f14
    refine parse_spec s hs fun w60 g60 => ⟨_, _, _, _, _, _, _, rfl, ?_⟩
    intro b69 w70 hb69 hw70
    obtain ⟨m1, n1⟩ := newPa (f14.trans' g60) (pp (parseP s)) hb69 hw70
    refine ⟨m1, fun w71 hw71 => ?_⟩
    obtain ⟨hP, g71, f71⟩ := n1 w71 hw71
    cases hq : parseP s with
    | none =>
      rw [hq] at hP
      refine ⟨fun _ => alive_spec fun w72 g72 => ⟨_, rfl, fun _ => ⟨_, _, _, _, _, _, patat (hP.fr g72 (fun h => h)), ?_⟩, fun h => by cases h⟩, fun h => by cases h⟩
      exact hk _ (f71.trans' g72)
    | some q =>
      rw [hq] at hP
      obtain ⟨hv, hl⟩ := read_ok hq
      have hql : q.seg.length ≤ 1000000000000000 := by rw [parseP_seg hq]; simp; omega
      have hpl := printP_len q
      refine ⟨fun h => (by cases h), fun _ => ⟨_, _, _, _, _, _, patat hP, print_spec q hql fun w87 g87 => ⟨_, rfl, parse_spec (printP q) (by omega) fun w90 g90 => ?_⟩⟩⟩
      rw [back hv]
      refine ⟨_, _, _, _, _, _, _, rfl, ?_⟩
      intro b99 w100 hb99 hw100
      obtain ⟨m2, n2⟩ := newPa ((f71.trans' g87).trans' g90) q hb99 hw100
      refine ⟨m2, fun w101 hw101 => ?_⟩
      obtain ⟨hX, g101, f101⟩ := n2 w101 hw101
      refine alive_spec fun w102 g102 => ⟨_, rfl, fun _ => ?_, fun h => by cases h⟩
      have hP2 := (((hP.fr g87 (fun h => h)).fr g90 (fun h => h)).fr g101 (fun h => h)).fr g102 (fun h => h)
      have hX2 := hX.fr g102 (fun h => h)
      refine ⟨_, _, _, _, _, _, patat hP2, valid_spec q hql fun w111 g111 => ⟨_, rfl, fun _ => ⟨fun _ => ⟨_, _, _, _, _, _, patat (hX2.fr g111 (fun h => h)), _, _, _, _, _, _, patat (hP2.fr g111 (fun h => h)), fun _ => ?_, fun h => by simp [pp] at h⟩, fun h => by cases h⟩, fun h => by rw [hv] at h; cases h⟩⟩
      rw [decide_eq_true (by omega)]
      exact hk _ ((f101.trans' g102).trans' g111)
  · refine ⟨_, _, _, _, _, _, patat hA, valid_spec p hp fun w21 g21 => ⟨_, rfl, fun hv => ?_, fun _ => f9.trans' g21⟩⟩
    have hA2 := hA.fr g21 (fun h => h)
    have hpl := printP_len p
    refine ⟨_, _, _, _, _, _, patat hA2, print_spec p hp fun w30 g30 => ⟨_, rfl, parse_spec (printP p) (by omega) fun w33 g33 => ?_⟩⟩
    rw [back hv]
    refine ⟨_, _, _, _, _, _, _, rfl, ?_⟩
    intro b42 w43 hb42 hw43
    obtain ⟨m2, n2⟩ := newPa (((f9.trans' g21).trans' g30).trans' g33) p hb42 hw43
    refine ⟨m2, fun w44 hw44 => ?_⟩
    obtain ⟨hX, g44, f44⟩ := n2 w44 hw44
    have hA3 := ((hA2.fr g30 (fun h => h)).fr g33 (fun h => h)).fr g44 (fun h => h)
    refine ⟨fun v w' => v = false ∧ w' = w44, ?_, fun h => (by cases h), fun _ => ⟨_, _, _, _, _, _, patat hX, _, _, _, _, _, _, patat hA3, by simp, rfl⟩⟩
    rintro v w47 ⟨rfl, rfl⟩
    exact ⟨fun h => (by cases h), fun _ => f44⟩
end
end Go.Proofs.YtpkkbbdffhcpaaaDoor
