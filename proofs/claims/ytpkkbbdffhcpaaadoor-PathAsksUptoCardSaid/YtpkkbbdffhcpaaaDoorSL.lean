/- What is printed is read as the path; what is read is printed as short as can be. -/
import Derived.Test.YtpkkbbdffhcpaaaDoorSK
set_option linter.unusedSimpArgs false
set_option linter.unusedVariables false
namespace Go.Proofs.YtpkkbbdffhcpaaaDoor
open Go.V Go.RowKit
theorem dec_fin : ∀ n : Fin 201, n.val = 0 ∨ ((dec n.val).all isDig = true ∧ numOf (dec n.val) = ((n.val : Int), 0)) := by decide +kernel
theorem dec_ok {n : Int} (h : inR n = true) : (dec n.toNat).all isDig = true ∧ numOf (dec n.toNat) = (n, 0) := by
  obtain ⟨h1, h2⟩ := inR_bnd h
  rcases dec_fin ⟨n.toNat, by omega⟩ with h0 | h0
  · simp only at h0; omega
  · simp only at h0
    rw [show ((n.toNat : Nat) : Int) = n from by omega] at h0; exact h0
theorem dec_short_fin : ∀ n : Fin 201, (dec n.val).length = if n.val < 10 then 1 else if n.val < 100 then 2 else 3 := by decide +kernel
/-- Digits that say a number are no fewer than those that it is printed with. -/
theorem dec_short {s : Str} {n : Int} (h1 : 1 ≤ n) (h2 : n ≤ 200) (h : numOf s = (n, 0)) : (dec n.toNat).length ≤ s.length := by
  have hl := dec_short_fin ⟨n.toNat, by omega⟩
  simp only at hl
  unfold numOf at h
  split at h
  · cases h
  split at h
  · rename_i hd
    obtain ⟨b1, b2⟩ := dval_bnd s hd
    split at h
    · cases h
    · simp only [Prod.mk.injEq] at h
      rw [hl]
      rcases hs : s with _ | ⟨a, _ | ⟨b, _ | ⟨c, r⟩⟩⟩
      · subst hs; simp at b2; omega
      · subst hs; simp at b2 ⊢; split
        · omega
        · omega
      · subst hs; simp at b2 ⊢; split
        · omega
        · split <;> omega
      · simp; split
        · omega
        · split <;> omega
  · cases h
theorem tw_app (p : UInt8 → Bool) : ∀ (a b : Str), a.all p = true → (∀ c z, b = c :: z → p c = false) → (a ++ b).takeWhile p = a ∧ (a ++ b).dropWhile p = b
  | [], [], _, _ => by simp
  | [], c :: z, _, h => by have := h c z rfl; simp [this]
  | x :: a, b, ha, h => by
    simp only [List.all_cons, Bool.and_eq_true] at ha
    obtain ⟨h1, h2⟩ := tw_app p a b ha.2 h
    simp [ha.1, h1, h2]
theorem rstep_none {s : Str} {g : UInt8} (h : ∀ c z, s = c :: z → c ≠ g) : rstep s g = (1, s, true) := by
  cases s with
  | nil => rfl
  | cons c z => simp [rstep, h c z rfl]
theorem rstep_dec {g : UInt8} {n : Int} (hg : g ≠ 91) (hn : inR n = true) (r : Str) (hr : ∀ c z, r = c :: z → isDig c = false) : rstep (g :: (dec n.toNat ++ r)) g = (n, r, true) := by
  obtain ⟨d1, d2⟩ := dec_ok hn
  obtain ⟨h1, h2⟩ := inR_bnd hn
  obtain ⟨t1, t2⟩ := tw_app isDig _ r d1 hr
  simp only [rstep, if_true, t1, t2, d2, if_neg hg]
  rw [if_neg]
  simp; omega
theorem rstep_br {n : Int} (hn : inR n = true) (r : Str) (hr : ∀ c z, r = c :: z → c ≠ 91) : rstep (br n ++ r) 91 = (n, r, true) := by
  obtain ⟨h1, h2⟩ := inR_bnd hn
  unfold br
  split
  · obtain ⟨d1, d2⟩ := dec_ok hn
    obtain ⟨t1, t2⟩ := tw_app isDig _ (93 :: r) d1 (fun c z e => by cases e; decide)
    simp only [List.cons_append, List.nil_append, List.append_assoc, rstep, if_true, t1, t2, d2]
    rw [if_neg (by simp; omega)]
    simp
  · have : n = 1 := by omega
    subst this
    exact rstep_none hr
theorem isName_len {s : Str} (h : isName s = true) : s.length = 3 := by unfold isName at h; simp at h; exact h.1
/-- The text behind the name. -/
def tailP (p : Pa) : Str := if p.fld = 0 then br p.occ else br p.occ ++ (45 :: (dec p.fld.toNat ++ (br p.rep ++ (dt (decide (1 < p.cmp) || decide (1 < p.sub)) p.cmp ++ dt (decide (1 < p.sub)) p.sub))))
theorem printP_tail {p : Pa} (h : validP p = true) : printP p = p.seg ++ tailP p := by
  unfold printP tailP
  rw [if_pos h]
  split
  · rfl
  · simp [List.append_assoc]
theorem plain_eq {p : Pa} (h : plain p = true) : p = ⟨p.seg, p.occ, 0, 0, 0, 0⟩ := by
  obtain ⟨a, b, c, d, e, f⟩ := p
  simp [plain] at h
  obtain ⟨rfl, rfl, rfl, rfl⟩ := h
  rfl
theorem dt_head {b : Bool} {n : Int} {r : Str} (hr : ∀ c z, r = c :: z → c = 46) : ∀ c z, dt b n ++ r = c :: z → c = 46 := by
  intro c z h
  unfold dt at h
  split at h
  · simp at h; exact h.1.symm
  · exact hr c z (by simpa using h)
/-- What is printed is read as the path. -/
theorem back {p : Pa} (h : validP p = true) : parseP (printP p) = some p := by
  rw [parse_alike, printP_tail h]
  have hv := h
  unfold validP at hv
  simp only [Bool.and_eq_true, Bool.or_eq_true] at hv
  obtain ⟨⟨hname, hocc⟩, hrest⟩ := hv
  have hl := isName_len hname
  have t3 : (p.seg ++ tailP p).take 3 = p.seg := by rw [← hl]; exact List.take_left
  have d3 : (p.seg ++ tailP p).drop 3 = tailP p := by rw [← hl]; exact List.drop_left
  unfold parseR
  rw [if_neg (by simp; omega), t3, d3, if_pos hname]
  by_cases hf : p.fld = 0
  · have hpl : plain p = true := by
      rcases hrest with hh | ⟨hh, _⟩
      · exact hh
      · rw [hf] at hh; cases hh
    have ht : tailP p = br p.occ := by unfold tailP; rw [if_pos hf]
    have hs := rstep_br hocc [] (fun c z e => by cases e)
    rw [List.append_nil] at hs
    rw [ht, hs]
    unfold qA
    rw [if_pos rfl, if_pos rfl]
    exact congrArg some (plain_eq hpl).symm
  · have hrest : inR p.fld = true ∧ inR p.rep = true ∧ inR p.cmp = true ∧ inR p.sub = true := by
      rcases hrest with hh | hh
      · exfalso; apply hf; have := plain_eq hh; rw [this]
      · exact hh
    obtain ⟨h2, h3, h4, h5⟩ := hrest
    obtain ⟨c1, c2⟩ := inR_bnd h4
    obtain ⟨s1, s2⟩ := inR_bnd h5
    have ht : tailP p = br p.occ ++ (45 :: (dec p.fld.toNat ++ (br p.rep ++ (dt (decide (1 < p.cmp) || decide (1 < p.sub)) p.cmp ++ dt (decide (1 < p.sub)) p.sub)))) := by unfold tailP; rw [if_neg hf]
    have e1 := rstep_br hocc (45 :: (dec p.fld.toNat ++ (br p.rep ++ (dt (decide (1 < p.cmp) || decide (1 < p.sub)) p.cmp ++ dt (decide (1 < p.sub)) p.sub)))) (fun c z e => by cases e; decide)
    rw [ht, e1]
    have hD : ∀ c z, dt (decide (1 < p.cmp) || decide (1 < p.sub)) p.cmp ++ dt (decide (1 < p.sub)) p.sub = c :: z → c = 46 := dt_head (fun c z e => by
      have := dt_head (b := decide (1 < p.sub)) (n := p.sub) (r := []) (fun c z e => by cases e) c z (by simpa using e)
      exact this)
    have hB : ∀ c z, br p.rep ++ (dt (decide (1 < p.cmp) || decide (1 < p.sub)) p.cmp ++ dt (decide (1 < p.sub)) p.sub) = c :: z → isDig c = false := by
      intro c z e
      unfold br at e
      split at e
      · simp at e; rw [← e.1]; decide
      · have := hD c z (by simpa using e); rw [this]; decide
    have e2 := rstep_dec (g := 45) (by decide) h2 _ hB
    have e3 := rstep_br h3 _ (fun c z e => by have := hD c z e; rw [this]; decide)
    unfold qA
    simp only
    rw [if_pos trivial, if_neg (by simp), List.getD_cons_zero, if_pos rfl, e2]
    unfold qB
    simp only
    rw [if_pos trivial, e3]
    unfold qC
    simp only
    rw [if_pos trivial]
    by_cases hcs : (decide (1 < p.cmp) || decide (1 < p.sub)) = true
    · have hd1 : dt (decide (1 < p.cmp) || decide (1 < p.sub)) p.cmp = 46 :: dec p.cmp.toNat := by unfold dt; rw [if_pos hcs]; rfl
      rw [hd1]
      have e4 := rstep_dec (g := 46) (by decide) h4 (dt (decide (1 < p.sub)) p.sub) (fun c z e => by
        have := dt_head (b := decide (1 < p.sub)) (n := p.sub) (r := []) (fun c z e => by cases e) c z (by simpa using e)
        rw [this]; decide)
      rw [List.cons_append, e4]
      unfold qD
      simp only
      rw [if_pos trivial]
      by_cases hs : 1 < p.sub
      · have hd2 : dt (decide (1 < p.sub)) p.sub = 46 :: (dec p.sub.toNat ++ []) := by unfold dt; rw [if_pos (by simpa using hs), List.append_nil]; rfl
        rw [hd2, if_neg (by simp), rstep_dec (g := 46) (by decide) h5 [] (fun c z e => by cases e)]
        unfold qE
        rw [if_pos rfl, if_pos rfl]
      · have hd2 : dt (decide (1 < p.sub)) p.sub = [] := by unfold dt; rw [if_neg (by simpa using hs)]
        have hs1 : p.sub = 1 := by omega
        rw [hd2, if_pos rfl]
        unfold qE
        simp only [if_true]
        rw [← hs1]
    · have hc1 : p.cmp = 1 := by simp at hcs; omega
      have hs1 : p.sub = 1 := by simp at hcs; omega
      have hd1 : dt (decide (1 < p.cmp) || decide (1 < p.sub)) p.cmp = [] := by unfold dt; rw [if_neg hcs]
      have hd2 : dt (decide (1 < p.sub)) p.sub = [] := by unfold dt; rw [if_neg (by simp [hs1])]
      rw [hd1, hd2]
      have : rstep (([] : Str) ++ []) 46 = (1, [], true) := rfl
      rw [this]
      unfold qD qE
      simp only [if_true]
      obtain ⟨a, b, c, d, e, f⟩ := p
      simp at hc1 hs1
      subst hc1 hs1
      rfl
/-- What a step takes is no shorter than what is printed for it. -/
theorem step_sg {s : Str} {g : UInt8} {n : Int} {y : Str} (hg : g ≠ 91) (h : rstep s g = (n, y, true)) : (n = 1 ∧ y = s ∧ (∀ c z, s = c :: z → c ≠ g)) ∨ (inR n = true ∧ 1 + (dec n.toNat).length + y.length ≤ s.length) := by
  cases s with
  | nil => left; simp [rstep] at h; exact ⟨h.1.symm, h.2, fun c z e => by cases e⟩
  | cons c x =>
    by_cases hc : c = g
    · right
      simp only [rstep, hc, if_true, if_neg hg] at h
      split at h
      · cases h
      · rename_i hb
        have hb := Bool.eq_false_iff.2 hb
        simp only [Bool.or_eq_false_iff, bne_eq_false_iff_eq, decide_eq_false_iff_not] at hb
        simp only [Prod.mk.injEq] at h
        obtain ⟨h1, h2, _⟩ := h
        obtain ⟨b1, b2, b3⟩ := hb
        rw [h1] at b2 b3
        have hnum : numOf (x.takeWhile isDig) = (n, 0) := by rw [← h1, ← b1]
        have := dec_short (by omega) (by omega) hnum
        have hx := congrArg List.length (List.takeWhile_append_dropWhile (p := isDig) (l := x))
        rw [h2, List.length_append] at hx
        refine ⟨by unfold inR; simp; omega, ?_⟩
        simp; omega
    · left
      simp [rstep, hc] at h
      exact ⟨h.1.symm, h.2.symm, fun c' z e => by cases e; exact hc⟩
theorem step_sq {s : Str} {n : Int} {y : Str} (h : rstep s 91 = (n, y, true)) : inR n = true ∧ (br n).length + y.length ≤ s.length := by
  cases s with
  | nil => simp [rstep] at h; obtain ⟨rfl, rfl⟩ := h; exact ⟨by decide, by simp [br]⟩
  | cons c x =>
    by_cases hc : c = 91
    · simp only [rstep, hc, if_true] at h
      split at h
      · cases h
      · rename_i hb
        have hb := Bool.eq_false_iff.2 hb
        simp only [Bool.or_eq_false_iff, bne_eq_false_iff_eq, decide_eq_false_iff_not] at hb
        split at h
        · cases h
        · rename_i hq
          simp only [Prod.mk.injEq] at h
          obtain ⟨h1, h2, _⟩ := h
          obtain ⟨b1, b2, b3⟩ := hb
          rw [h1] at b2 b3
          have hnum : numOf (x.takeWhile isDig) = (n, 0) := by rw [← h1, ← b1]
          have := dec_short (by omega) (by omega) hnum
          have hx := congrArg List.length (List.takeWhile_append_dropWhile (p := isDig) (l := x))
          rw [List.length_append] at hx
          have hy := congrArg List.length h2
          rw [List.length_drop] at hy
          have hne : x.dropWhile isDig ≠ [] := by intro e; rw [e] at hq; simp at hq
          have := List.length_pos_iff.2 hne
          refine ⟨by unfold inR; simp; omega, ?_⟩
          unfold br; split <;> simp <;> omega
    · simp [rstep, hc] at h
      obtain ⟨rfl, rfl⟩ := h
      exact ⟨by decide, by simp [br]⟩
theorem triple {r : Int × Str × Bool} (h : r.2.2 = true) : r = (r.1, r.2.1, true) := by rw [← h]
theorem qE_some {seg : Str} {o f rp c : Int} {e : Int × Str × Bool} {p : Pa} (h : qE seg o f rp c e = some p) : e = (e.1, [], true) ∧ p = ⟨seg, o, f, rp, c, e.1⟩ := by
  unfold qE at h
  split at h
  · rename_i h1
    split at h
    · rename_i h2
      cases h; exact ⟨by rw [← h1, ← h2], rfl⟩
    · cases h
  · cases h
/-- What is read is a path, and is printed as short as can be. -/
theorem read_ok {s : Str} {p : Pa} (h : parseP s = some p) : validP p = true ∧ (printP p).length ≤ s.length := by
  rw [parse_alike] at h
  unfold parseR at h
  split at h
  · cases h
  rename_i hl
  split at h
  · rename_i hname
    have hl3 := isName_len hname
    have hlen : s.length = 3 + (s.drop 3).length := by simp; omega
    revert h
    generalize s.drop 3 = t0 at hlen
    generalize s.take 3 = seg at hname hl3
    intro h
    unfold qA at h
    split at h
    · rename_i ha
      have ea := triple ha
      obtain ⟨ho, hol⟩ := step_sq ea
      split at h
      · cases h
        have hv : validP ⟨seg, (rstep t0 91).1, 0, 0, 0, 0⟩ = true := by unfold validP; simp only [hname, ho]; rfl
        refine ⟨hv, ?_⟩
        rw [printP_tail hv]; unfold tailP; simp only [if_true, List.length_append]; omega
      · split at h
        · rename_i hne h45
          have hq := h
          unfold qB at h
          by_cases hb : (rstep (rstep t0 91).2.1 45).2.2 = true
          · rw [if_pos hb] at h
            have eb := triple hb
            unfold qC at h
            by_cases hc : (rstep (rstep (rstep t0 91).2.1 45).2.1 91).2.2 = true
            · rw [if_pos hc] at h
              have ec := triple hc
              obtain ⟨hr, hrl⟩ := step_sq ec
              rcases step_sg (by decide) eb with ⟨_, _, hno⟩ | ⟨hfl, hfll⟩
              · exfalso
                cases hy : (rstep t0 91).2.1 with
                | nil => exact hne hy
                | cons c z =>
                  rw [hy] at h45
                  exact hno c z hy (by simpa using h45)
              unfold qD at h
              by_cases hd : (rstep (rstep (rstep (rstep t0 91).2.1 45).2.1 91).2.1 46).2.2 = true
              · rw [if_pos hd] at h
                generalize (rstep (rstep t0 91).2.1 45).1 = f at *
                generalize (rstep (rstep (rstep t0 91).2.1 45).2.1 91).1 = rp at *
                generalize (rstep t0 91).1 = o at *
                generalize (rstep (rstep (rstep t0 91).2.1 45).2.1 91).2.1 = y3 at *
                obtain ⟨⟨cn, y4, db⟩, ed⟩ : ∃ d, rstep y3 46 = d := ⟨_, rfl⟩
                rw [ed] at h hd
                simp only at h hd
                subst hd
                have hfb := inR_bnd hfl
                have key : ∀ sb : Int, inR cn = true → inR sb = true → (dt (decide (1 < cn) || decide (1 < sb)) cn).length + (dt (decide (1 < sb)) sb).length ≤ y3.length → p = ⟨seg, o, f, rp, cn, sb⟩ → validP p = true ∧ (printP p).length ≤ s.length := by
                  rintro sb hcn hsb hlen2 rfl
                  have hv : validP ⟨seg, o, f, rp, cn, sb⟩ = true := by unfold validP; simp only [hname, ho, hfl, hr, hcn, hsb]; simp
                  refine ⟨hv, ?_⟩
                  rw [printP_tail hv]; unfold tailP; simp only
                  rw [if_neg (by omega)]
                  simp only [List.length_append, List.length_cons]; omega
                rcases step_sg (by decide) ed with ⟨rfl, rfl, hno⟩ | ⟨hcn, hcl⟩
                · by_cases hy : y4 = []
                  · subst hy
                    rw [if_pos rfl] at h
                    obtain ⟨_, hp⟩ := qE_some h
                    exact key 1 (by decide) (by decide) (by simp [dt]) hp
                  · rw [if_neg hy, rstep_none hno] at h
                    obtain ⟨he, _⟩ := qE_some h
                    simp at he; exact absurd he hy
                · by_cases hy : y4 = []
                  · subst hy
                    rw [if_pos rfl] at h
                    obtain ⟨_, hp⟩ := qE_some h
                    refine key 1 hcn (by decide) ?_ hp
                    have : (dt (decide ((1 : Int) < 1)) 1).length = 0 := by simp [dt]
                    have h2 : (dt (decide (1 < cn) || decide ((1 : Int) < 1)) cn).length ≤ 1 + (dec cn.toNat).length := by unfold dt; split <;> simp; omega
                    omega
                  · rw [if_neg hy] at h
                    obtain ⟨he, hp⟩ := qE_some h
                    rcases step_sg (by decide) he with ⟨_, he2, _⟩ | ⟨hsn, hsl⟩
                    · exact absurd he2.symm hy
                    refine key _ hcn hsn ?_ hp
                    have h1 : ∀ (b : Bool) (n : Int), (dt b n).length ≤ 1 + (dec n.toNat).length := by intro b n; unfold dt; split <;> simp; omega
                    have h2 := h1 (decide (1 < cn) || decide (1 < (rstep y4 46).1)) cn
                    have h3 := h1 (decide (1 < (rstep y4 46).1)) (rstep y4 46).1
                    simp at hsl
                    omega
              · rw [if_neg hd, qE_bad] at h
                · cases h
                · exact Bool.eq_false_iff.2 hd
            · rw [if_neg hc, qD_bad] at h
              · cases h
              · exact Bool.eq_false_iff.2 hc
          · rw [if_neg hb, qC_bad] at h
            · cases h
            · exact Bool.eq_false_iff.2 hb
        · cases h
    · cases h
  · cases h
end Go.Proofs.YtpkkbbdffhcpaaaDoor
