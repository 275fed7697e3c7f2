/- What a path may change; whether it is asked rightly. -/
import Derived.Test.YthpeengmcjpknaaGreatDoorPMB
set_option linter.unusedSimpArgs false
set_option linter.unusedVariables false
namespace Go.Proofs.YthpeengmcjpknaaGreatDoor
open Go.V Go.RowKit
abbrev PK := Str × Int × Int × Int × Int × Int
def pk (x : PK) : Value := .agg (List.toArray [.string (mkS x.1), .int .i64 x.2.1, .int .i64 x.2.2.1, .int .i64 x.2.2.2.1, .int .i64 x.2.2.2.2.1, .int .i64 x.2.2.2.2.2])
def un (_ : Unit) : Value := .agg (List.toArray [])
theorem bl_data (a b : Str) : ((mkS a).data.toList == (mkS b).data.toList) = (a == b) := by rw [data_mkS, data_mkS]
theorem pkeys : Keys Tryz.prog 28 pk := by
  refine keys_of (fs := #[⟨ "Segment", 9, 0, false, "", "", 0⟩, ⟨ "Occ", 3, 1, false, "", "", 16⟩, ⟨ "Field", 3, 2, false, "", "", 24⟩, ⟨ "Rep", 3, 3, false, "", "", 32⟩, ⟨ "Comp", 3, 4, false, "", "", 40⟩, ⟨ "Sub", 3, 5, false, "", "", 48⟩]) (by kernel_rfl) ?_ (fun k => ⟨_, rfl⟩) ?_ ?_
  · rintro ⟨a, b, c, d, e, f⟩
    show chkV Tryz.prog 4 28 (.agg (List.toArray [.string (mkS a), .int .i64 b, .int .i64 c, .int .i64 d, .int .i64 e, .int .i64 f])) = true
    generalize mkS a = s
    kernel_rfl
  · rintro ⟨a, b, c, d, e, f⟩ ⟨a', b', c', d', e', f'⟩
    have key : ∀ s t : ByteArray, eqV Tryz.prog 4 28 (.agg (List.toArray [.string s, .int .i64 b, .int .i64 c, .int .i64 d, .int .i64 e, .int .i64 f])) (.agg (List.toArray [.string t, .int .i64 b', .int .i64 c', .int .i64 d', .int .i64 e', .int .i64 f'])) = some ((s.data.toList == t.data.toList) && (b == b' && (c == c' && (d == d' && (e == e' && (f == f' && true)))))) := by
      intro s t; kernel_rfl
    unfold pk; rw [key, bl_data]; congr 1
    rw [Bool.eq_iff_iff]; simp
  · rintro ⟨a, b, c, d, e, f⟩; exact bits_agg _ (by simp [bits_int, bits_str])
def k1 : PK := (msh, 0, 1, 0, 0, 0)
def k2 : PK := (msh, 0, 2, 0, 0, 0)
section
variable {w : World} {k : Value → World → Prop}
theorem mput_spec {r : Nat} {l : List (PK × Unit)} {C : World → Prop} (h : MapAt w r pk un l) (x : PK) (hC : ∀ w1, MapAt w1 r pk un (ins l x ()) → Fr (fun g => g = r) w w1 → C w1) :
    ∃ w1, (Instr.mapUpdate 306 (.map (some r)) (pk x) (.agg (List.toArray []))).run Tryz.prog w = .ok () w1 ∧ C w1 := by
  obtain ⟨w1, h1, h2, h3⟩ := run_mapUpdate (P := Tryz.prog) (mt := 306) (vt := 304) pkeys (by kernel_rfl) h x ()
  exact ⟨w1, h1, hC w1 h2 h3⟩
theorem sealed_spec (hk : ∀ r w' (l : List (PK × Unit)), MapAt w' r pk un l → (∀ x, (lk l x).isSome = decide (x = k1 ∨ x = k2)) → Fr Non w w' → k (.map (some r)) w') : Cl Tryz.prog 302 [] w k := by
  refine f302_ok ?_
  unfold f302
  rintro w1 rfl b2 w3 hb2 hw3
  have f3 : Fr Non w w3 := hw3 ▸ ((Fr.refl Non w).drew).alloc _
  have hM : MapAt w3 b2 pk un [] := hb2 ▸ hw3 ▸ MapAt.new w.drew pk un
  have hb : b2 = w.heap.size := hb2
  have fin : ∀ {w1 w2 : World}, Fr (fun g => g = b2) w3 w1 → Fr (fun g => g = b2) w1 w2 → Fr Non w w2 := fun g1 g2 => upN f3 (g1.trans' g2) (fun g hg => by omega)
  refine ⟨mput_spec hM k1 fun w4 h4 f4 => mput_spec h4 k2 fun w5 h5 f5 => hk b2 w5 _ h5 (fun x => ?_) (fin f4 f5), mput_spec hM k2 fun w4 h4 f4 => mput_spec h4 k1 fun w5 h5 f5 => hk b2 w5 _ h5 (fun x => ?_) (fin f4 f5)⟩
  · rw [lk_ins, lk_ins]
    by_cases h1 : x = k2
    · rw [if_pos h1]; simp [h1]
    · rw [if_neg h1]
      by_cases h2 : x = k1
      · rw [if_pos h2]; simp [h2]
      · rw [if_neg h2]; simp [h1, h2, lk]
  · rw [lk_ins, lk_ins]
    by_cases h1 : x = k1
    · rw [if_pos h1]; simp [h1]
    · rw [if_neg h1]
      by_cases h2 : x = k2
      · rw [if_pos h2]; simp [h2]
      · rw [if_neg h2]; simp [h1, h2, lk]
def neverP (p : Pa) : Bool := decide (((p.seg, 0, p.fld, 0, 0, 0) : PK) = k1 ∨ ((p.seg, 0, p.fld, 0, 0, 0) : PK) = k2)
def mayP (p : Pa) (whole : Bool) : Bool := validP p && (!neverP p && (!((p.seg == msh) && decide (1 < p.occ)) && (decide (0 < p.fld) || (whole && !(p.seg == msh)))))
set_option maxHeartbeats 1000000 in
theorem mayP_spec (p : Pa) (whole : Bool) (hp : p.seg.length ≤ 1000000000000000) (hk : ∀ w', Fr Non w w' → k (.bool (mayP p whole)) w') : Cl Tryz.prog 213 [.agg (List.toArray (pc p)), .bool whole] w k := by
  refine f213_ok ?_
  unfold f213
  intro b8 w9 hb8 hw9
  have f9 : Fr Non w w9 := hw9 ▸ (Fr.refl Non w).alloc _
  have hP : Blk w9 b8 28 (pc p) := hb8 ▸ hw9 ▸ Blk.new w (pc p) 28
  have hpc : ∀ {w' : World} {i : Nat} {u : Value}, Fr Non w9 w' → (pc p)[i]? = some u → w'.cell? ((⟨b8, 0, none⟩ : Addr).add i) = some u := fun f h => by rw [add_mk, Nat.zero_add]; exact (hP.fr f (fun h => h)).cell h
  refine ⟨fun v w' => v = neverP p ∧ Fr Non w9 w', ?_, ?_⟩
  · rintro v w12 ⟨rfl, f12⟩
    refine ⟨fun v w' => v = !(validP p && (!neverP p && !((p.seg == msh) && decide (1 < p.occ)))) ∧ Fr Non w9 w', ?_, p.seg, p.occ, p.fld, p.rep, p.cmp, p.sub, patat (hP.fr f12 (fun h => h)), ?_⟩
    · rintro v w32 ⟨rfl, f32⟩
      refine ⟨fun hv => ?_, fun hv => ?_⟩
      · have hv := (Bool.not_eq_true' _).mp hv
        have := hk _ (f9.trans' f32)
        rw [show mayP p whole = false from by unfold mayP; rw [← Bool.and_assoc (!neverP p), ← Bool.and_assoc (validP p), hv]; rfl] at this; exact this
      · have hv := (Bool.not_eq_false' _).mp hv
        have hm : mayP p whole = (decide (0 < p.fld) || (whole && !(p.seg == msh))) := by unfold mayP; rw [← Bool.and_assoc (!neverP p), ← Bool.and_assoc (validP p), hv]; rfl
        rw [hm] at hk
        refine ⟨p.fld, hpc f32 rfl, fun h => ?_, fun h => ⟨fun hw => ⟨p.seg, hpc f32 (i := 0) rfl, ?_⟩, fun hw => ?_⟩⟩
        · have := hk _ (f9.trans' f32); rw [h] at this; exact this
        · have := hk _ (f9.trans' f32); rw [h, hw] at this; exact this
        · have := hk _ (f9.trans' f32); rw [h, hw] at this; exact this
    · refine valid_spec p hp fun w39 g39 => ⟨_, rfl, fun hv => ⟨?_, f12.trans' g39⟩, fun hv => ⟨fun hn => ⟨?_, f12.trans' g39⟩, fun hn => ⟨p.seg, hpc (f12.trans' g39) (i := 0) rfl, fun hm => ⟨p.occ, hpc (f12.trans' g39) rfl, ?_, f12.trans' g39⟩, fun hm => ⟨?_, f12.trans' g39⟩⟩⟩⟩
      · have h := (Bool.not_eq_true' _).mp hv
        rw [h]; rfl
      · have h := (Bool.not_eq_false' _).mp hv
        rw [h, hn]; rfl
      · have h := (Bool.not_eq_false' _).mp hv
        rw [h, hn, show (p.seg == msh) = (p.seg == [77, 83, 72]) from rfl, hm]; simp
      · have h := (Bool.not_eq_false' _).mp hv
        rw [h, hn, show (p.seg == msh) = (p.seg == [77, 83, 72]) from rfl, hm]; rfl
  · rintro w13 rfl
    have f13 : Fr Non w9 w9.drew := (Fr.refl Non w9).drew
    refine ⟨p.seg, hpc f13 (i := 0) rfl, p.fld, hpc f13 rfl, ?_, ?_⟩
    · refine sealed_spec fun r w16 l hM hl g16 => ⟨g16.ext, some r, rfl, neverP p, ?_, ?_⟩
      · have := run_lookupOk (P := Tryz.prog) (mt := 306) (vt := 304) (z := .agg (List.toArray [])) pkeys (by kernel_rfl) (Zr.mk (by kernel_rfl)) hM ((p.seg, 0, p.fld, 0, 0, 0) : PK)
        rw [hl] at this
        intro u hu
        have := this u hu
        cases hlk : lk l ((p.seg, 0, p.fld, 0, 0, 0) : PK) with
        | none => rw [hlk] at this; exact this
        | some x => rw [hlk] at this; exact this
      · intro b20 w21 hb20 hw21
        have g21 : Fr Non w16 w21 := hw21 ▸ (Fr.refl Non w16).alloc _
        refine ⟨fun j h1 h2 => by omega, ?_⟩
        rintro w22 rfl
        exact ⟨rfl, (f13.trans' g16).trans' g21⟩
    · intro b23 w24 hb23 hw24
      have g24 : Fr Non w9 w24 := hw24 ▸ f13.alloc _
      refine sealed_spec fun r w16 l hM hl g16 => ⟨g16.ext, some r, rfl, neverP p, ?_, ?_⟩
      · have := run_lookupOk (P := Tryz.prog) (mt := 306) (vt := 304) (z := .agg (List.toArray [])) pkeys (by kernel_rfl) (Zr.mk (by kernel_rfl)) hM ((p.seg, 0, p.fld, 0, 0, 0) : PK)
        rw [hl] at this
        intro u hu
        have := this u hu
        cases hlk : lk l ((p.seg, 0, p.fld, 0, 0, 0) : PK) with
        | none => rw [hlk] at this; exact this
        | some x => rw [hlk] at this; exact this
      · refine ⟨fun j h1 h2 => by omega, ?_⟩
        rintro w22 rfl
        exact ⟨rfl, g24.trans' g16⟩
def askE (m : Mh) (l : List Seg) (p : Pa) (whole : Bool) : Int := if validM m l = true then (if mayP p whole = true then 0 else 60) else 51
theorem asked_spec (m : Mh) (p : Pa) (whole : Bool) (l : List Seg) (hR : RM w m.s l) (hS : SmM l) (hd : Dg m) (hp : p.seg.length ≤ 1000000000000000) (hk : ∀ w', Fr Non w w' → k (.int .i64 (askE m l p whole)) w') : Cl Tryz.prog 54 [.agg (List.toArray (mc m)), .agg (List.toArray (pc p)), .bool whole] w k := by
  refine f54_ok ?_
  unfold f54
  intro b14 w15 hb14 hw15 b16 w17 hb16 hw17
  have f15 : Fr Non w w15 := hw15 ▸ (Fr.refl Non w).alloc _
  have f17 : Fr Non w w17 := hw17 ▸ f15.alloc _
  have hM15 : Blk w15 b14 26 (mc m) := hb14 ▸ hw15 ▸ Blk.new w (mc m) 26
  have hM : Blk w17 b14 26 (mc m) := hw17 ▸ hM15.alloc _
  have hP : Blk w17 b16 28 (pc p) := hb16 ▸ hw17 ▸ Blk.new w15 (pc p) 28
  refine ⟨m.d1, m.d2, m.d3, m.d4, m.d5, m.s, hM.ats (mc m) 0 0 (fun q v hq => by simpa using hq), tvalid_spec m l (hR.fr f17) hS hd fun w24 g24 => ⟨_, rfl, fun hv => ?_, fun hv => ?_⟩⟩
  · have hv := (Bool.not_eq_true' _).mp hv
    have := hk _ (f17.trans' g24)
    rw [show askE m l p whole = 51 from by unfold askE; rw [if_neg (by rw [hv]; simp)]] at this; exact this
  have hv := (Bool.not_eq_false' _).mp hv
  refine ⟨p.seg, p.occ, p.fld, p.rep, p.cmp, p.sub, patat (hP.fr g24 (fun h => h)), mayP_spec p whole hp fun w33 g33 => ⟨_, rfl, fun hm => ?_, fun hm => ?_⟩⟩
  · have hm := (Bool.not_eq_true' _).mp hm
    have := hk _ ((f17.trans' g24).trans' g33)
    rw [show askE m l p whole = 60 from by unfold askE; rw [if_pos hv, if_neg (by rw [hm]; simp)]] at this; exact this
  · have hm := (Bool.not_eq_false' _).mp hm
    have := hk _ ((f17.trans' g24).trans' g33)
    rw [show askE m l p whole = 0 from by unfold askE; rw [if_pos hv, if_pos hm]] at this; exact this
end
end Go.Proofs.YthpeengmcjpknaaGreatDoor
