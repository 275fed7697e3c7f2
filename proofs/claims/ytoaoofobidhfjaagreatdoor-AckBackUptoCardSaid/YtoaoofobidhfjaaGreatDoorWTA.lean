/- AckBack: an answer tells its code and what it answers; it goes back. -/
import Derived.Test.YtoaoofobidhfjaaGreatDoorWH4
import Derived.Test.YtoaoofobidhfjaaGreatDoorWFP
set_option linter.unusedSimpArgs false
set_option linter.unusedVariables false
namespace Go.Proofs.YtoaoofobidhfjaaGreatDoor
open Go.V Go.RowKit
theorem strs_rd {w : World} {b : Nat} {T : TypeId} {vs : Cmp} {n : Nat} (h : Blk w b T (vs.map fun v => .string (mkS v))) (hn : n = vs.length) : RdL 1 RdStr w ⟨some ⟨b, 0, none⟩, n, n⟩ vs := by
  refine ⟨hn, fun i hi => ⟨⟨b, 0, none⟩, rfl, ?_⟩⟩
  rw [add_mk]
  refine h.cell ?_
  rw [Nat.zero_add, Nat.mul_one, List.getElem?_map, List.getElem?_eq_getElem hi]; rfl
section
variable {w : World} {k : Value → World → Prop}
set_option maxHeartbeats 8000000 in
theorem made_spec (d : Dm) (ok : OkD d) (s : Sl) (l : List Seg) (code text control time : Str) (hR : RM w s l) (hb : bkM l ≤ 1000000000) (h2 : code.length ≤ 1000000000) (h3 : text.length ≤ 1000000000) (h4 : control.length ≤ 1000000000) (h5 : time.length ≤ 1000000000) (hG : GMax w)
    (hk : ∀ (y : Sl) w', OwM w' y (ackL d l code text control time) (fun c => w.heap.size ≤ c ∧ c < w'.heap.size) → Fr Non w w' → k (.tuple (List.toArray [.agg (List.toArray (mc (mD d y))), .int .i64 0])) w') :
    Cl Tryz.prog 111 [.agg (List.toArray (mc (mD d s))), .string (mkS code), .string (mkS text), .string (mkS control), .string (mkS time)] w k := by
  refine f111_ok ?_
  unfold f111
  obtain ⟨bR, bL, hops⟩ := bk_ack ok l code text control time (C := 1000000000) hb h2 h3 h4 h5 (by omega)
  have hS : SmM l := SmM_of (by unfold BB; omega)
  have hSR : SmM (ackR d l code text control time) := SmM_of (by unfold BB; omega)
  have hnm : (ackH d l control time).length = 1 := by
    obtain ⟨_, _, k3, _⟩ := mk_ok ok s (hd l 5 1, hd l 6 1) (hd l 3 1, hd l 4 1) ackK (hd l 9 2) control (hd l 12 1) time
    exact nm_len k3
  intro b11 w12 hb11 hw12 b13 w14 hb13 hw14
  have f12 : Fr Non w w12 := hw12 ▸ (Fr.refl Non w).alloc _
  have f14 : Fr Non w12 w14 := hw14 ▸ (Fr.refl Non w12).alloc _
  have hM : Blk w14 b11 26 (mc (mD d s)) := (hb11 ▸ hw12 ▸ Blk.new w _ _ : Blk w12 b11 26 (mc (mD d s))).fr f14 (fun h => h)
  have hZ : Blk w14 b13 26 (mc mz) := hb13 ▸ hw14 ▸ Blk.new w12 _ _
  have k14 := f12.trans' f14
  have hR14 := hR.fr k14
  have lZ := hZ.lt
  have e13 : b13 = w12.heap.size := hb13
  have s12 := f12.size
  have s14 := k14.size
  have mAt : ∀ {u}, Fr Non w14 u → cellsAt u ⟨b11, 0, none⟩ 0 (mc (mD d s)) := fun f => msgAts (hM.fr f (fun h => h))
  refine ⟨_, _, _, _, _, s, mAt (Fr.refl _ _), sender_spec (mD d s) l hR14 hS fun w21 f21 => ⟨_, _, rfl, _, _, _, _, _, s, mAt f21, receiver_spec (mD d s) l (hR14.fr f21) hS fun w31 f31 => ⟨_, _, rfl, _, _, _, _, _, s, mAt (f21.trans' f31), kind_spec (mD d s) l (hR14.fr (f21.trans' f31)) hS fun w41 f41 => ⟨_, _, rfl, ?_⟩⟩⟩⟩
  have k41 := (f21.trans' f31).trans' f41
  refine ⟨fun out e w' => e = 0 ∧ ∃ (bo : Nat) (y : Sl), out = ⟨bo, 0, none⟩ ∧ w14.heap.size ≤ bo ∧ Blk w' bo 26 (mc (mD d y)) ∧ OwM w' y (ackH d l control time) (fun c => w14.heap.size ≤ c ∧ c ≠ bo ∧ c < w'.heap.size) ∧ Fr Non w14 w', ?_, ?_⟩
  · rintro out e w48 ⟨rfl, bo, y, rfl, hbo, hB, hO, f48⟩
    have lB := hB.lt
    refine ⟨fun h => (by cases h), fun _ => ?_⟩
    rintro w110 hw110
    have g110 : Fr Non w48 w110 := hw110 ▸ (Fr.refl Non w48).drew
    have z110 : w110.heap.size = w48.heap.size := by rw [hw110]; rfl
    have hB110 := hB.fr g110 (fun h => h)
    refine ⟨y, by rw [add_mk]; exact hB110.cell rfl, _, _, _, _, _, s, mAt (f48.trans' g110), control_spec (mD d s) l (hR14.fr (f48.trans' g110)) hS fun w118 f118 => ⟨f118.ext, _, rfl, ?_⟩⟩
    intro b121 w122 hb121 hw122
    have f122 : Fr Non w118 w122 := hw122 ▸ (Fr.refl Non w118).alloc _
    have hV : Blk w122 b121 9 ([code, hd l 10 1, text].map fun v => .string (mkS v)) := hb121 ▸ hw122 ▸ Blk.new w118 _ _
    refine segment_spec msa ⟨some ⟨b121, 0, none⟩, 3, 3⟩ [code, hd l 10 1, text] (strs_rd hV rfl) (by simp) fun z w123 hz f123 => ⟨f123.ext, _, z, rfl, ?_⟩
    intro b127 w128 hb127 hw128
    have f128 : Fr Non w123 w128 := hw128 ▸ (Fr.refl Non w123).alloc _
    have hN : Blk w128 b127 35 [.string (mkS msa), .slice z.base z.len z.cap] := hb127 ▸ hw128 ▸ Blk.new w123 _ _
    have j128 := (((g110.trans' f118).trans' f122).trans' f123).trans' f128
    have s118 := f118.size
    have s122 := f122.size
    have s123 := f123.size
    have s128 := f128.size
    have s48 := f48.size
    obtain ⟨s', w130, r1, r2, r3, r4⟩ := seg_push (u := w110) (hB.fr j128 (fun h => h)) (hO.fr (fun _ => EG.st) j128 (fun _ _ h => h)) (fun c hc => ⟨hc.2.1, by have := hc.2.2; omega⟩) (hz.fr (fun _ => EF.st) f128 (fun _ _ h => h)) (fun c hc => ⟨by have := hc.1; omega, by have := hc.2; omega⟩) (by omega) (by omega) hN (by omega)
    refine ⟨s', w130, r1, by rw [add_mk]; exact r2, by rw [add_mk]; exact r3, ?_⟩
    intro w131 hw131
    rw [add_mk] at hw131
    obtain ⟨q1, q2, q3⟩ := r4 w131 hw131
    have k131 : Fr Non w14 w131 := upN (f48.trans' j128) q3 (fun g hg => by rcases hg with h | h; exact h.1; omega)
    have s131 := q3.size
    refine ⟨fun w' => ∃ y, Blk w' bo 26 (mc (mD d y)) ∧ RM w' y (ackR d l code text control time) ∧ Fr Non w14 w', ?_, code_spec 0 fun w134 f134 => ⟨_, rfl, fun h => ?_, fun h => ?_⟩⟩
    · rintro w133 ⟨y3, hB3, hR3, f133⟩
      refine ⟨_, _, _, _, _, y3, msgAts hB3, canon_spec (mD d y3) (ackR d l code text control time) hR3 hSR fun y4 w156 hy4 f156 => ⟨_, _, _, _, _, y4, rfl, ?_⟩⟩
      have hZ156 := hZ.fr (f133.trans' f156) (fun h => h)
      refine ⟨mayCells_of hZ156 0 6 (by simp [mc, mz]), fun w164 hw164 => ?_⟩
      have hZ164 : Blk w164 b13 26 (mc (mD d y4)) := hw164 ▸ hZ156.setAll (vs := mc (mD d y4)) rfl
      have r164 : Fr (fun g => g = b13) w156 w164 := hw164 ▸ (Fr.refl (fun g => g = b13) w156).setAll hZ156 (vs := mc (mD d y4)) rfl (fun _ => rfl)
      have s133 := f133.size
      refine ⟨_, _, _, _, _, y4, msgAts hZ164, hk y4 w164 ?_ (upN (k14.trans' (f133.trans' f156)) r164 (fun g hg => by omega))⟩
      exact (hy4.fr (fun _ => EG.st) r164 (fun c hc e => by have := hc.1; have e : c = b13 := e; omega)).tight.mono fun c hc => ⟨by have := hc.1.1; omega, hc.2⟩
    · have hne : code ≠ [65, 65] := by
        have : codeP 0 = [65, 65] := rfl
        rw [this] at h
        simpa using h
      rintro w137 hw137
      have g137 : Fr Non w134 w137 := hw137 ▸ (Fr.refl Non w134).drew
      have z137 : w137.heap.size = w134.heap.size := by rw [hw137]; rfl
      have s134 := f134.size
      have j137 := f134.trans' g137
      have hB137 := q1.fr j137 (fun h => h)
      refine ⟨s', by rw [add_mk]; exact hB137.cell rfl, ?_⟩
      intro b139 w140 hb139 hw140
      have f140 : Fr Non w137 w140 := hw140 ▸ (Fr.refl Non w137).alloc _
      have hV2 : Blk w140 b139 9 ((([[], [], [], [], [], [], [], text] : List Str)).map fun v => .string (mkS v)) := hb139 ▸ hw140 ▸ Blk.new w137 _ _
      refine segment_spec errS ⟨some ⟨b139, 0, none⟩, 8, 8⟩ [[], [], [], [], [], [], [], text] (strs_rd hV2 rfl) (by simp) fun z2 w141 hz2 f141 => ⟨f141.ext, _, z2, rfl, ?_⟩
      intro b145 w146 hb145 hw146
      have f146 : Fr Non w141 w146 := hw146 ▸ (Fr.refl Non w141).alloc _
      have hN2 : Blk w146 b145 35 [.string (mkS errS), .slice z2.base z2.len z2.cap] := hb145 ▸ hw146 ▸ Blk.new w141 _ _
      have j146 := ((j137.trans' f140).trans' f141).trans' f146
      have s140 := f140.size
      have s141 := f141.size
      have s146 := f146.size
      obtain ⟨s2, w148, t1, t2, t3, t4⟩ := seg_push (u := w137) (q1.fr j146 (fun h => h)) (q2.fr (fun _ => EG.st) j146 (fun _ _ h => h)) (fun c hc => ⟨by rcases hc.1 with h | h; exact h.2.1; omega, by have := hc.2; omega⟩) (hz2.fr (fun _ => EF.st) f146 (fun _ _ h => h)) (fun c hc => ⟨by have := hc.1; omega, by have := hc.2; omega⟩) (by omega) (by omega) hN2 (by rw [List.length_append, hnm]; simp)
      refine ⟨s2, w148, t1, by rw [add_mk]; exact t2, by rw [add_mk]; exact t3, ?_⟩
      intro w149 hw149
      rw [add_mk] at hw149
      obtain ⟨x1, x2, x3⟩ := t4 w149 hw149
      refine ⟨s2, x1, ?_, upN (k131.trans' j146) x3 (fun g hg => by rcases hg with h | h; rcases h.1 with h | h; exact h.1; omega; omega)⟩
      have e : ackR d l code text control time = (ackH d l control time ++ [segV msa [code, hd l 10 1, text]]) ++ [segV errS [[], [], [], [], [], [], [], text]] := by
        unfold ackR errL; rw [if_neg hne]
      rw [e]; exact OwM.rd x2
    · have he : code = [65, 65] := by
        have : codeP 0 = [65, 65] := rfl
        rw [this] at h
        simpa using h
      have e : ackR d l code text control time = ackH d l control time ++ [segV msa [code, hd l 10 1, text]] := by
        unfold ackR errL; rw [if_pos he, List.append_nil]
      exact ⟨s', q1.fr f134 (fun h => h), by rw [e]; exact (OwM.rd q2).fr f134, k131.trans' f134⟩
  · rintro w49 hw49
    have g49 : Fr Non w41 w49 := hw49 ▸ (Fr.refl Non w41).drew
    have k49 := k41.trans' g49
    have hM49 := hM.fr k49 (fun h => h)
    have hG49 : GMax w49 := hG.fr (k14.trans' k49) (fun h => h)
    have s49 := k49.size
    refine ⟨_, _, _, _, _, ats5 hM49, _, _, _, _, _, s, msgAts hM49, version_spec (mD d s) l (hR14.fr k49) hS fun w61 f61 => ⟨f61.ext, _, rfl, ?_, ?_⟩, ?_⟩
    · refine make_spec d ok (hd l 5 1, hd l 6 1) (hd l 3 1, hd l 4 1) ackK (hd l 9 2) control (hd l 12 1) time hops (hG49.fr f61 (fun h => h)) fun y w64 hy f64 => ⟨_, _, _, _, _, y, _, rfl, ?_⟩
      intro b73 w74 hb73 hw74
      obtain ⟨m1, n1⟩ := msgVar (mD d y) hb73 hw74
      refine ⟨m1, fun w75 hw75 => ?_⟩
      obtain ⟨hX, f75⟩ := n1 w75 hw75
      have e73 : b73 = w64.heap.size := hb73
      have s61 := f61.size
      have s64 := f64.size
      have s75 := f75.size
      refine ⟨rfl, b73, y, rfl, by omega, hX, (hy.tight.fr (fun _ => EG.st) f75 (fun _ _ h => h)).mono fun c hc => ⟨by have hc1 : w61.heap.size ≤ c := hc.1; omega, by have := hc.2; omega, by have := hc.2; omega⟩, ((k49.trans' f61).trans' f64).trans' f75⟩
    · intro b76 w77 hb76 hw77
      have f77 : Fr Non w61 w77 := hw77 ▸ (Fr.refl Non w61).alloc _
      have hX : Blk w77 b76 26 (mc mz) := hb76 ▸ hw77 ▸ Blk.new w61 _ _
      refine make_spec d ok (hd l 5 1, hd l 6 1) (hd l 3 1, hd l 4 1) ackK (hd l 9 2) control (hd l 12 1) time hops (hG49.fr (f61.trans' f77) (fun h => h)) fun y w78 hy f78 => ⟨_, _, _, _, _, y, _, rfl, ?_⟩
      have hX78 := hX.fr f78 (fun h => h)
      refine ⟨mayCells_of hX78 0 6 (by simp [mc, mz]), fun w87 hw87 => ?_⟩
      have hX87 : Blk w87 b76 26 (mc (mD d y)) := hw87 ▸ hX78.setAll (vs := mc (mD d y)) rfl
      have r87 : Fr (fun g => g = b76) w78 w87 := hw87 ▸ (Fr.refl (fun g => g = b76) w78).setAll hX78 (vs := mc (mD d y)) rfl (fun _ => rfl)
      have lX := hX.lt
      have e76 : b76 = w61.heap.size := hb76
      have s61 := f61.size
      have s77 := f77.size
      refine ⟨rfl, b76, y, rfl, by omega, hX87, (hy.fr (fun _ => EG.st) r87 (fun c hc e => by have hc : w77.heap.size ≤ c := hc; have e : c = b76 := e; omega)).tight.mono fun c hc => ⟨by have hc1 : w77.heap.size ≤ c := hc.1; omega, by have hc1 : w77.heap.size ≤ c := hc.1; omega, hc.2⟩, upN ((k49.trans' f61).trans' (f77.trans' f78)) r87 (fun g hg => by omega)⟩
    · intro b88 w89 hb88 hw89
      have f89 : Fr Non w49 w89 := hw89 ▸ (Fr.refl Non w49).alloc _
      have hX : Blk w89 b88 26 (mc mz) := hb88 ▸ hw89 ▸ Blk.new w49 _ _
      refine version_spec (mD d s) l (hR14.fr (k49.trans' f89)) hS fun w90 f90 => ⟨f90.ext, _, rfl, make_spec d ok (hd l 5 1, hd l 6 1) (hd l 3 1, hd l 4 1) ackK (hd l 9 2) control (hd l 12 1) time hops (hG49.fr (f89.trans' f90) (fun h => h)) fun y w93 hy f93 => ⟨_, _, _, _, _, y, _, rfl, ?_⟩⟩
      have hX93 := hX.fr (f90.trans' f93) (fun h => h)
      refine ⟨mayCells_of hX93 0 6 (by simp [mc, mz]), fun w102 hw102 => ?_⟩
      have hX102 : Blk w102 b88 26 (mc (mD d y)) := hw102 ▸ hX93.setAll (vs := mc (mD d y)) rfl
      have r102 : Fr (fun g => g = b88) w93 w102 := hw102 ▸ (Fr.refl (fun g => g = b88) w93).setAll hX93 (vs := mc (mD d y)) rfl (fun _ => rfl)
      have lX := hX.lt
      have e88 : b88 = w49.heap.size := hb88
      have s89 := f89.size
      have s90 := f90.size
      refine ⟨rfl, b88, y, rfl, by omega, hX102, (hy.fr (fun _ => EG.st) r102 (fun c hc e => by have hc : w90.heap.size ≤ c := hc; have e : c = b88 := e; omega)).tight.mono fun c hc => ⟨by have hc1 : w90.heap.size ≤ c := hc.1; omega, by have hc1 : w90.heap.size ≤ c := hc.1; omega, hc.2⟩, upN ((k49.trans' f89).trans' (f90.trans' f93)) r102 (fun g hg => by omega)⟩
theorem build_spec (d : Dm) (s : Sl) (l : List Seg) (code text control time : Str) (hv : validM (mD d s) l = true) (hcd : isCode code = true) (hR : RM w s l) (hb : bkM l ≤ 1000000000) (h2 : code.length ≤ 1000000000) (h3 : text.length ≤ 1000000000) (h4 : control.length ≤ 1000000000) (h5 : time.length ≤ 1000000000) (hG : GMax w)
    (hk : ∀ (y : Sl) w', OwM w' y (ackL d l code text control time) (fun c => w.heap.size ≤ c ∧ c < w'.heap.size) → Fr Non w w' → k (.tuple (List.toArray [.agg (List.toArray (mc (mD d y))), .int .i64 0])) w') :
    Cl Tryz.prog 40 [.agg (List.toArray (mc (mD d s))), .string (mkS code), .string (mkS text), .string (mkS control), .string (mkS time)] w k := by
  have ok : OkD d := by have := (okM_of (Dg_mD d s) hv).sg; rw [dm_mD] at this; exact this
  refine f40_ok ?_
  unfold f40
  intro b11 w12 hb11 hw12 b13 w14 hb13 hw14
  have f12 : Fr Non w w12 := hw12 ▸ (Fr.refl Non w).alloc _
  have f14 : Fr Non w12 w14 := hw14 ▸ (Fr.refl Non w12).alloc _
  have hM : Blk w14 b11 26 (mc (mD d s)) := (hb11 ▸ hw12 ▸ Blk.new w _ _ : Blk w12 b11 26 (mc (mD d s))).fr f14 (fun h => h)
  have hZ : Blk w14 b13 26 (mc mz) := hb13 ▸ hw14 ▸ Blk.new w12 _ _
  have k14 := f12.trans' f14
  have lZ := hZ.lt
  have e13 : b13 = w12.heap.size := hb13
  have s12 := f12.size
  have hS : SmM l := SmM_of (by unfold BB; omega)
  refine isCode_spec code fun w15 f15 => ⟨_, rfl, fun h => (by rw [hcd] at h; cases h), fun _ => ?_⟩
  refine ⟨_, _, _, _, _, s, msgAts (hM.fr f15 (fun h => h)), tvalid_spec (mD d s) l (hR.fr (k14.trans' f15)) hS (Dg_mD d s) fun w31 f31 => ⟨_, rfl, fun h => (by rw [hv] at h; cases h), fun _ => ?_⟩⟩
  have k31 := f15.trans' f31
  refine ⟨_, _, _, _, _, s, msgAts (hM.fr k31 (fun h => h)), made_spec d ok s l code text control time (hR.fr (k14.trans' k31)) hb h2 h3 h4 h5 (hG.fr (k14.trans' k31) (fun h => h)) fun y w47 hy f47 => ⟨_, _, _, _, _, y, _, rfl, ?_⟩⟩
  have k47 := k31.trans' f47
  have hZ47 := hZ.fr k47 (fun h => h)
  refine ⟨mayCells_of hZ47 0 6 (by simp [mc, mz]), fun w56 hw56 => ?_⟩
  have hZ56 : Blk w56 b13 26 (mc (mD d y)) := hw56 ▸ hZ47.setAll (vs := mc (mD d y)) rfl
  have r56 : Fr (fun g => g = b13) w47 w56 := hw56 ▸ (Fr.refl (fun g => g = b13) w47).setAll hZ47 (vs := mc (mD d y)) rfl (fun _ => rfl)
  have s31 := k31.size
  refine ⟨_, _, _, _, _, y, msgAts hZ56, hk y w56 ?_ (upN (k14.trans' k47) r56 (fun g hg => by omega))⟩
  exact (hy.fr (fun _ => EG.st) r56 (fun c hc e => by have := hc.1; have e : c = b13 := e; omega)).tight.mono fun c hc => ⟨by have := hc.1.1; omega, hc.2⟩
theorem rget_spec {m : Mh} {b : Nat} (f : Int) (l : List Seg) (hM : Blk w b 26 (mc m)) (hR : RM w m.s l) (hS : SmM l) (hk : ∀ w', Fr Non w w' → k (.string (mkS (getP l (msaAt f)))) w') : Cl Tryz.prog 112 [.int .i64 f, .pointer (some ⟨b, 0, none⟩)] w k := by
  refine f112_ok ?_
  unfold f112
  exact ⟨_, _, _, _, _, m.s, msgAts hM, get_spec m (msaAt f) l hR hS (by show msa.length ≤ _; decide) (by show (-9223372036854775808 : Int) ≤ 1 ∧ (1 : Int) ≤ _; omega) fun w9 f9 => ⟨_, rfl, hk _ f9⟩⟩
theorem aread_spec (m : Mh) (l : List Seg) (hR : RM w m.s l) (hS : SmM l) (hd : Dg m) (hv : validM m l = true) (hc : isCode (getP l (msaAt 1)) = true) (hk : ∀ w', Fr Non w w' → k (.tuple (List.toArray [.string (mkS (getP l (msaAt 1))), .string (mkS (getP l (msaAt 2))), .int .i64 0])) w') : Cl Tryz.prog 41 [.agg (List.toArray (mc m))] w k := by
  refine f41_ok ?_
  unfold f41
  intro b7 w8 hb7 hw8
  have f8 : Fr Non w w8 := hw8 ▸ (Fr.refl Non w).alloc _
  have hM : Blk w8 b7 26 (mc m) := hb7 ▸ hw8 ▸ Blk.new w _ _
  refine ⟨_, _, _, _, _, m.s, msgAts hM, tvalid_spec m l (hR.fr f8) hS hd fun w15 f15 => ⟨_, rfl, fun h => (by rw [hv] at h; cases h), fun _ => ?_⟩⟩
  refine rget_spec 1 l (hM.fr f15 (fun h => h)) (hR.fr (f8.trans' f15)) hS fun w18 f18 => ⟨_, rfl, isCode_spec _ fun w21 f21 => ⟨_, rfl, fun h => (by rw [hc] at h; cases h), fun _ => ?_⟩⟩
  have k21 := (f15.trans' f18).trans' f21
  exact rget_spec 1 l (hM.fr k21 (fun h => h)) (hR.fr (f8.trans' k21)) hS fun w24 f24 => ⟨_, rfl, rget_spec 2 l (hM.fr (k21.trans' f24) (fun h => h)) (hR.fr (f8.trans' (k21.trans' f24))) hS fun w27 f27 => ⟨_, rfl, hk _ ((f8.trans' (k21.trans' f24)).trans' f27)⟩⟩
end
end Go.Proofs.YtoaoofobidhfjaaGreatDoor
namespace Go.Proofs.YtoaoofobidhfjaaGreatDoor
open Go.V Go.RowKit
def dDef : Dm := ⟨124, 94, 126, 92, 38⟩
theorem okDef : OkD dDef := (validD_iff dDef).1 (by decide)
theorem mcDef : mc (mD dDef ⟨none, 0, 0⟩) = [.int .u8 124, .int .u8 94, .int .u8 126, .int .u8 92, .int .u8 38, .slice none 0 0] := by kernel_rfl
def tmS : Str := [50, 48, 48, 48, 48, 49, 48, 49, 48, 48, 48, 48, 48, 48]
theorem alB1 : prE (mD dDef ⟨none, 0, 0⟩) (ackL dDef [] [65, 82] [120] [57] tmS) = 0 := by kernel_rfl
theorem alB2 : prS (mD dDef ⟨none, 0, 0⟩) (ackL dDef [] [65, 82] [120] [57] tmS) = [77, 83, 72, 124, 94, 126, 92, 38, 124, 124, 124, 124, 124, 50, 48, 48, 48, 48, 49, 48, 49, 48, 48, 48, 48, 48, 48, 124, 124, 65, 67, 75, 124, 57, 124, 80, 13, 77, 83, 65, 124, 65, 82, 124, 124, 120, 13, 69, 82, 82, 124, 124, 124, 124, 124, 124, 124, 124, 120, 13] := by kernel_rfl
section
variable {w : World} {k : Value → World → Prop}
theorem alive11_spec (hG : GMax w) (hk : ∀ w', Fr Non w w' → k (.bool true) w') : Cl Tryz.prog 39 [] w k := by
  refine f39_ok ?_
  unfold f39
  have hcd : isCode [65, 82] = true := by decide
  obtain ⟨hv, hcan, _, hg1, hg2⟩ := ack_ok okDef ⟨none, 0, 0⟩ [] [65, 82] [120] [57] tmS hcd
  obtain ⟨_, hbL, _⟩ := bk_ack okDef [] [65, 82] [120] [57] tmS (C := 100) (by decide) (by decide) (by decide) (by decide) (by decide) (by decide)
  have hbB : bkM (ackL dDef [] [65, 82] [120] [57] tmS) ≤ BB := by unfold BB; omega
  obtain ⟨A, hA⟩ : ∃ A, A = ackL dDef [] [65, 82] [120] [57] tmS := ⟨_, rfl⟩
  refine f109_ok ?_
  unfold f109
  intro b5 w6 hb5 hw6
  have f6 : Fr Non w w6 := hw6 ▸ (Fr.refl Non w).alloc _
  have hZ : Blk w6 b5 26 (mc mz) := hb5 ▸ hw6 ▸ Blk.new w _ _
  have lZ := hZ.lt
  have e5 : b5 = w.heap.size := hb5
  refine isCode_spec [65, 82] fun w7 f7 => ⟨_, rfl, fun h => (by rw [hcd] at h; cases h), fun _ => default_spec fun w17 f17 => ⟨_, _, _, _, _, rfl, ?_⟩⟩
  have k17 := f6.trans' (f7.trans' f17)
  rw [← mcDef]
  refine made_spec dDef okDef ⟨none, 0, 0⟩ [] [65, 82] [120] [57] tmS ⟨rfl, fun i hi => absurd hi (by simp)⟩ (by decide) (by decide) (by decide) (by decide) (by decide) (hG.fr k17 (fun h => h)) fun y w24 hy f24 => ⟨_, _, _, _, _, y, _, rfl, ?_⟩
  have hZ24 := hZ.fr ((f7.trans' f17).trans' f24) (fun h => h)
  refine ⟨mayCells_of hZ24 0 6 (by simp [mc, mz]), fun w33 hw33 => ?_⟩
  have hZ33 : Blk w33 b5 26 (mc (mD dDef y)) := hw33 ▸ hZ24.setAll (vs := mc (mD dDef y)) rfl
  have r33 : Fr (fun g => g = b5) w24 w33 := hw33 ▸ (Fr.refl (fun g => g = b5) w24).setAll hZ24 (vs := mc (mD dDef y)) rfl (fun _ => rfl)
  have s17 := (f7.trans' f17).size
  have hR33 : RM w33 y A := by
    rw [hA]
    exact OwM.rd (hy.fr (fun _ => EG.st) r33 (fun c hc e => by have := hc.1; have e : c = b5 := e; omega))
  have k33 : Fr Non w w33 := upN (k17.trans' f24) r33 (fun g hg => by omega)
  refine ⟨_, _, _, _, _, y, msgAts hZ33, ⟨_, _, _, _, _, y, _, rfl, ?_⟩⟩
  intro b10 w11 hb10 hw11
  obtain ⟨m1, n1⟩ := msgVar (mD dDef y) hb10 hw11
  refine ⟨m1, fun w12 hw12 => ?_⟩
  obtain ⟨hX, f12⟩ := n1 w12 hw12
  have hR12 := hR33.fr f12
  rw [← hA] at hbB hv hg1 hg2
  have hvy : validM (mD dDef y) A = true := hv
  have hE : prE (mD dDef y) A = 0 := by rw [hA]; exact alB1
  have hP : prS (mD dDef y) A = [77, 83, 72, 124, 94, 126, 92, 38, 124, 124, 124, 124, 124, 50, 48, 48, 48, 48, 49, 48, 49, 48, 48, 48, 48, 48, 48, 124, 124, 65, 67, 75, 124, 57, 124, 80, 13, 77, 83, 65, 124, 65, 82, 124, 124, 120, 13, 69, 82, 82, 124, 124, 124, 124, 124, 124, 124, 124, 120, 13] := by rw [hA]; exact alB2
  refine ⟨_, _, _, _, _, y, msgAts hX, tprint_spec (mD dDef y) A hR12 hbB (Dg_mD dDef y) fun w19 f19 => ⟨_, _, rfl, _, _, _, _, _, y, msgAts (hX.fr f19 (fun h => h)), aread_spec (mD dDef y) A (hR12.fr f19) (SmM_of hbB) (Dg_mD dDef y) hvy (by rw [hg1]; exact hcd) fun w29 f29 => ⟨_, _, _, rfl, ?_⟩⟩⟩
  rw [hE, hP, hg1]
  have k29 := k33.trans' (f12.trans' (f19.trans' f29))
  refine ⟨fun _ => ⟨fun _ => ⟨fun _ => ⟨fun _ => ⟨fun _ => code_spec 1 fun w34 f34 => ⟨_, rfl, hk _ (k29.trans' f34)⟩, fun h => ?_⟩, fun h => ?_⟩, fun h => ?_⟩, fun h => ?_⟩, fun h => ?_⟩
  all_goals (exfalso; revert h; decide)
end
end Go.Proofs.YtoaoofobidhfjaaGreatDoor
namespace Go.Proofs.YtoaoofobidhfjaaGreatDoor
open Go.V Go.RowKit
section
variable {w : World} {k : Value → World → Prop}
theorem code_len (n : Int) : (codeP n).length ≤ 2 := by
  unfold codeP
  by_cases h1 : 0 ≤ n ∧ n < 3
  · rw [if_pos h1]
    have : n = 0 ∨ n = 1 ∨ n = 2 := by omega
    rcases this with rfl | rfl | rfl <;> decide
  · rw [if_neg h1]; simp
set_option maxHeartbeats 8000000 in
theorem aback_spec (m : Mh) (n : Int) (text control : Str) (l : List Seg) (hR : RM w m.s l) (hb : bkM l ≤ 1048576) (ht : text.length ≤ 1048576) (hct : control.length ≤ 1048576) (hd' : Dg m) (hG : GMax w) (hk : ∀ w', Fr Non w w' → k (.bool true) w') : Cl Tryz.prog 12 [.agg (List.toArray (mc m)), .int .i64 n, .string (mkS text), .string (mkS control)] w k := by
  obtain ⟨d, s, rfl⟩ : ∃ d s, m = mD d s := ⟨dmM m, m.s, (mD_dm hd').symm⟩
  refine f12_ok ?_
  unfold f12
  have hbB : bkM l ≤ BB := by unfold BB; omega
  have hS := SmM_of hbB
  intro b10 w11 hb10 hw11
  have f11 : Fr Non w w11 := hw11 ▸ (Fr.refl Non w).alloc _
  have hM : Blk w11 b10 26 (mc (mD d s)) := hb10 ▸ hw11 ▸ Blk.new w _ _
  have hR11 := hR.fr f11
  have hG11 := hG.fr f11 (fun h => h)
  have mAt : ∀ {u}, Fr Non w11 u → cellsAt u ⟨b10, 0, none⟩ 0 (mc (mD d s)) := fun f => msgAts (hM.fr f (fun h => h))
  refine code_spec n fun w12 f12 => ⟨_, rfl, fun b w' => Fr Non w11 w' ∧ (b = false → validM (mD d s) l = true ∧ codeP n ≠ []), ?_, _, _, _, _, _, s, mAt f12, light_any (mD d s) l (hR11.fr f12) hS fun b w24 f24 => ⟨b, rfl, fun _ => ⟨f12.trans' f24, fun h => (by cases h)⟩, fun _ => ⟨_, _, _, _, _, s, mAt (f12.trans' f24), tvalid_spec (mD d s) l (hR11.fr (f12.trans' f24)) hS hd' fun w33 f33 => ⟨_, rfl, fun _ => ⟨(f12.trans' f24).trans' f33, fun h => (by cases h)⟩, fun hv => ⟨fun _ => ⟨(f12.trans' f24).trans' f33, fun h => (by cases h)⟩, fun hn => ⟨(f12.trans' f24).trans' f33, fun _ => ⟨by simpa using hv, by simpa using hn⟩⟩⟩⟩⟩⟩⟩
  rintro b17 w17 ⟨f17, hq⟩
  refine ⟨fun _ => alive11_spec (hG11.fr f17 (fun h => h)) fun w22 f22 => ⟨_, rfl, fun _ => ⟨fun h => ?_, fun h => ?_⟩, fun h => by cases h⟩, fun hb0 => ?_⟩
  · have e : ((!(codeP n == [])) == decide (n ≤ 2)) = true := by rw [code_iff, h]; simp
    rw [e]; exact hk _ ((f11.trans' f17).trans' f22)
  · have e : ((!(codeP n == [])) == false) = true := by rw [code_iff, h]; simp
    rw [e]; exact hk _ ((f11.trans' f17).trans' f22)
  obtain ⟨hv, hne⟩ := hq hb0
  have hcd := code_is n hne
  have ok : OkD d := by have := (okM_of hd' hv).sg; rw [dm_mD] at this; exact this
  have hcl := code_len n
  obtain ⟨cd, hcdE⟩ : ∃ cd, cd = codeP n := ⟨_, rfl⟩
  rw [← hcdE] at hcd hne hcl ⊢
  obtain ⟨hvA, hcan, hhd, hg1, hg2⟩ := ack_ok ok s l cd text control tmS hcd
  obtain ⟨_, _, _, e1, e2, e3, e4, e5, e6, e7, e8⟩ := mk_ok ok s (hd l 5 1, hd l 6 1) (hd l 3 1, hd l 4 1) ackK (hd l 9 2) control (hd l 12 1) tmS
  obtain ⟨_, hbA, _⟩ := bk_ack ok l cd text control tmS (C := 1048576) hb (by omega) ht hct (by decide) (by omega)
  refine ⟨_, _, _, _, _, s, mAt f17, build_spec d s l cd text control tmS hv hcd (hR11.fr f17) (by omega) (by omega) (by omega) (by omega) (by decide) (hG11.fr f17 (fun h => h)) fun y w45 hy f45 => ⟨_, _, _, _, _, y, _, rfl, ?_⟩⟩
  obtain ⟨A, hA⟩ : ∃ A, A = ackL d l cd text control tmS := ⟨_, rfl⟩
  rw [← hA] at hy hvA hcan hhd hg1 hg2 hbA
  have hbAB : bkM A ≤ BB := by unfold BB; omega
  have hSA := SmM_of hbAB
  intro b54 w55 hb54 hw55
  obtain ⟨m1, n1⟩ := msgVar (mD d y) hb54 hw55
  refine ⟨m1, fun w56 hw56 => ⟨fun h => (by cases h), fun _ => ?_⟩⟩
  obtain ⟨hX, f56⟩ := n1 w56 hw56
  have hRA := (OwM.rd hy).fr f56
  have k56 := f17.trans' (f45.trans' f56)
  have hvy : validM (mD d y) A = true := hvA
  have xAt : ∀ {u}, Fr Non w56 u → cellsAt u ⟨b54, 0, none⟩ 0 (mc (mD d y)) := fun f => msgAts (hX.fr f (fun h => h))
  refine ⟨_, _, _, _, _, y, msgAts hX, aread_spec (mD d y) A hRA hSA (Dg_mD d y) hvy (by rw [hg1]; exact hcd) fun w63 f63 => ⟨_, _, _, rfl, _, _, _, _, _, y, xAt f63, sender_spec (mD d y) A (hRA.fr f63) hSA fun w74 f74 => ⟨_, _, rfl, ?_⟩⟩⟩
  have j74 := f63.trans' f74
  refine ⟨_, _, _, _, _, s, mAt (k56.trans' j74), receiver_spec (mD d s) l (hR11.fr (k56.trans' j74)) hS fun w84 f84 => ⟨_, _, rfl, _, _, _, _, _, y, xAt (j74.trans' f84), receiver_spec (mD d y) A (hRA.fr (j74.trans' f84)) hSA fun w94 f94 => ⟨_, _, rfl, ?_⟩⟩⟩
  have j94 := (j74.trans' f84).trans' f94
  refine ⟨_, _, _, _, _, s, mAt (k56.trans' j94), sender_spec (mD d s) l (hR11.fr (k56.trans' j94)) hS fun w104 f104 => ⟨_, _, rfl, _, _, _, _, _, y, xAt (j94.trans' f104), kind_spec (mD d y) A (hRA.fr (j94.trans' f104)) hSA fun w114 f114 => ⟨_, _, rfl, ?_⟩⟩⟩
  have j114 := (j94.trans' f104).trans' f114
  refine ⟨_, _, _, _, _, s, mAt (k56.trans' j114), kind_spec (mD d s) l (hR11.fr (k56.trans' j114)) hS fun w124 f124 => ⟨_, _, rfl, ?_⟩⟩
  have j124 := j114.trans' f124
  have hG124 : GMax w124 := hG11.fr (k56.trans' j124) (fun h => h)
  obtain ⟨hvB, _, hhdB, _, _⟩ := ack_ok ok y A cd text control tmS hcd
  obtain ⟨_, _, _, e1B, e2B, _⟩ := mk_ok ok y (hd A 5 1, hd A 6 1) (hd A 3 1, hd A 4 1) ackK (hd A 9 2) control (hd A 12 1) tmS
  obtain ⟨_, hbBB, _⟩ := bk_ack ok A cd text control tmS (C := 60000000) (by omega) (by omega) (by omega) (by omega) (by decide) (by omega)
  refine ⟨_, _, _, _, _, y, xAt j124, build_spec d y A cd text control tmS hvy hcd (hRA.fr j124) (by omega) (by omega) (by omega) (by omega) (by decide) hG124 fun z w134 hz f134 => ⟨_, _, _, _, _, z, _, rfl, ?_⟩⟩
  intro b143 w144 hb143 hw144
  obtain ⟨m2, n2⟩ := msgVar (mD d z) hb143 hw144
  refine ⟨m2, fun w145 hw145 => ?_⟩
  obtain ⟨hY, f145⟩ := n2 w145 hw145
  obtain ⟨B, hB⟩ : ∃ B, B = ackL d A cd text control tmS := ⟨_, rfl⟩
  rw [← hB] at hz hhdB hbBB
  have hSB : SmM B := SmM_of (by unfold BB; omega)
  have j145 := j124.trans' (f134.trans' f145)
  refine ⟨_, _, _, _, _, z, msgAts hY, sender_spec (mD d z) B ((OwM.rd hz).fr f145) hSB fun w152 f152 => ⟨_, _, rfl, ?_⟩⟩
  rintro w156 hw156
  have g156 : Fr Non w152 w156 := hw156 ▸ (Fr.refl Non w152).drew
  have j156 := (j145.trans' f152).trans' g156
  have q1 : hd A 3 1 = hd l 5 1 := by rw [hhd]; exact e1
  have q2 : hd A 4 1 = hd l 6 1 := by rw [hhd]; exact e2
  have q3 : hd A 5 1 = hd l 3 1 := by rw [hhd]; exact e3
  have q4 : hd A 6 1 = hd l 4 1 := by rw [hhd]; exact e4
  have q6 : hd A 9 2 = hd l 9 2 := by rw [hhd]; exact e6
  have q7 : hd A 10 1 = control := by rw [hhd]; exact e7
  have q8 : hd A 12 1 = hd l 12 1 := by rw [hhd]; exact e8
  have t1 : hd B 3 1 = hd l 3 1 := by rw [hhdB]; exact e1B.trans q3
  have t2 : hd B 4 1 = hd l 4 1 := by rw [hhdB]; exact e2B.trans q4
  have tr : ∀ {a b : Str}, a = b → (a == b) = false → False := fun e h => by rw [e] at h; simp at h
  refine alive11_spec (hG11.fr (k56.trans' j156) (fun h => h)) fun w157 f157 => ⟨_, rfl, fun _ => ⟨fun _ => ⟨fun _ => ⟨fun _ => ?_, fun h => (tr hg1 h).elim⟩, fun h => (by cases h)⟩, fun h => (by cases h)⟩, fun h => by cases h⟩
  have j157 := j156.trans' f157
  refine ⟨_, _, _, _, _, s, mAt (k56.trans' j157), control_spec (mD d s) l (hR11.fr (k56.trans' j157)) hS fun w166 f166 => ⟨_, rfl, fun _ => ⟨fun _ => ⟨fun _ => ⟨fun _ => ⟨fun _ => ⟨fun _ => ?_, fun h => (tr q6 h).elim⟩, fun h => (tr q4 h).elim⟩, fun h => (tr q3 h).elim⟩, fun h => (tr q2 h).elim⟩, fun h => (tr q1 h).elim⟩, fun h => (tr hg2 h).elim⟩⟩
  have j166 := j157.trans' f166
  refine ⟨_, _, _, _, _, y, xAt j166, _, _, _, _, _, s, mAt (k56.trans' j166), version_spec (mD d y) A (hRA.fr j166) hSA fun w181 f181 => ⟨f181.ext, _, rfl, version_spec (mD d s) l (hR11.fr (k56.trans' (j166.trans' f181))) hS fun w184 f184 => ⟨_, rfl, fun _ => ?_, fun h => (tr q8 h).elim⟩⟩⟩
  have j184 := (j166.trans' f181).trans' f184
  refine ⟨_, _, _, _, _, y, xAt j184, control_spec (mD d y) A (hRA.fr j184) hSA fun w193 f193 => ⟨_, rfl, fun _ => ⟨fun _ => ⟨fun _ => ?_, fun h => (tr t2 h).elim⟩, fun h => (tr t1 h).elim⟩, fun h => (tr q7 h).elim⟩⟩
  have j193 := j184.trans' f193
  refine ⟨_, _, _, _, _, y, xAt j193, tvalid_spec (mD d y) A (hRA.fr j193) hSA (Dg_mD d y) fun w202 f202 => ⟨_, rfl, ?_⟩⟩
  rw [hvy]; exact hk _ (f11.trans' ((k56.trans' j193).trans' f202))
end
end Go.Proofs.YtoaoofobidhfjaaGreatDoor
