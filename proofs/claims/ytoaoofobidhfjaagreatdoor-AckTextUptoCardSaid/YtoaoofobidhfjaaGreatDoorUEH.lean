/- One's own message, a segment of which has its fields set anew. -/
import Derived.Test.YtoaoofobidhfjaaGreatDoorUEF
import Derived.Test.YtoaoofobidhfjaaGreatDoorUV26
import Derived.Test.YtoaoofobidhfjaaGreatDoorUEC
set_option linter.unusedSimpArgs false
set_option linter.unusedVariables false
namespace Go.Proofs.YtoaoofobidhfjaaGreatDoor
open Go.V Go.RowKit
theorem flds_push {w w1 : World} {z : Sl} {fl : List Fldt} {o : Nat → Prop} (h : OwS w z fl o) (ho : ∀ b, o b → b < w.heap.size) (f1 : Fr Non w w1) {v : Sl} {f : Fldt} {ov : Nat → Prop} (hv : OwF w1 v f ov) (hov : ∀ b, ov b → w.heap.size ≤ b ∧ b < w1.heap.size) {b : Nat} (hB : Blk w1 b 38 [.slice v.base v.len v.cap]) (hl : fl.length ≤ 1000) :
    ∃ s' w2, (Builtin.append_ #[33, 33] 33 #[.slice z.base z.len z.cap, .slice (some ⟨b, 0, none⟩) 1 1]).run Tryz.prog w1 = .ok (.slice (Sl.base s') s'.len s'.cap) w2 ∧
      OwS w2 s' (fl ++ [f]) (fun b => (o b ∨ w.heap.size ≤ b) ∧ b < w2.heap.size) ∧ Fr o w1 w2 := by
  have hz := h.fr (fun _ => EF.st) f1 (fun _ _ h => h)
  obtain ⟨s2, w2, r1, r2, r3⟩ := hz.push (P := Tryz.prog) kU47 kS64 kZ64 kB64 rfl (by omega) (fun _ => EF.st) (x := f) (cx := [.slice v.base v.len v.cap]) ⟨v, rfl, hv⟩ rfl (by intro u hu; simp at hu; subst hu; rfl) (fun c hc => ⟨(hov c hc).2, fun h2 => by have := ho c h2; have := (hov c hc).1; omega⟩) (a := ⟨b, 0, none⟩) (c := 1) (cell1 hB) (by omega) (by omega) 33
  refine ⟨s2, w2, r1, r2.mono fun c hc => ⟨?_, hc.2⟩, r3⟩
  have hs := f1.size
  rcases hc.1 with h | h | h
  · exact .inl h
  · exact .inr (hov c h).1
  · exact .inr (by omega)
theorem one_new {w w3 w5 w7 : World} {b2 b4 b6 : Nat} (v : Str) (hb2 : b2 = w.heap.size) (hw3 : w3 = w.alloc (.cells (List.toArray [.string (mkS v)]) 9)) (hb4 : b4 = w3.heap.size) (hw5 : w5 = w3.alloc (.cells (List.toArray [.slice (some ⟨b2, 0, none⟩) 1 1]) 36)) (hb6 : b6 = w5.heap.size) (hw7 : w7 = w5.alloc (.cells (List.toArray [.slice (some ⟨b4, 0, none⟩) 1 1]) 37)) :
    OwF w7 ⟨some ⟨b6, 0, none⟩, 1, 1⟩ (one1' v) (fun b => w.heap.size ≤ b ∧ b < w7.heap.size) ∧ Fr Non w w7 := by
  have f3 : Fr Non w w3 := hw3 ▸ (Fr.refl Non w).alloc _
  have f5 : Fr Non w3 w5 := hw5 ▸ (Fr.refl Non w3).alloc _
  have f7 : Fr Non w5 w7 := hw7 ▸ (Fr.refl Non w5).alloc _
  have h2 : Blk w7 b2 9 [.string (mkS v)] := (((hb2 ▸ hw3 ▸ Blk.new w _ _ : Blk w3 b2 9 [.string (mkS v)])).fr f5 (fun h => h)).fr f7 (fun h => h)
  have h4 : Blk w7 b4 36 [.slice (some ⟨b2, 0, none⟩) 1 1] := ((hb4 ▸ hw5 ▸ Blk.new w3 _ _ : Blk w5 b4 36 [.slice (some ⟨b2, 0, none⟩) 1 1])).fr f7 (fun h => h)
  have h6 : Blk w7 b6 37 [.slice (some ⟨b4, 0, none⟩) 1 1] := hb6 ▸ hw7 ▸ Blk.new w5 _ _
  have s3 : w3.heap.size = w.heap.size + 1 := by rw [hw3]; simp
  have s5 : w5.heap.size = w3.heap.size + 1 := by rw [hw5]; simp
  have s7 : w7.heap.size = w5.heap.size + 1 := by rw [hw7]; simp
  have o2 : OwC w7 ⟨some ⟨b2, 0, none⟩, 1, 1⟩ [v] (fun c => c = b2 ∨ False) := Own.one h2 rfl (by intro v hv; simp at hv; subst hv; rfl) (show EStr w7 _ v (fun _ => False) from rfl) (fun c hc => hc.elim)
  have o4 : OwR w7 ⟨some ⟨b4, 0, none⟩, 1, 1⟩ [[v]] (fun c => c = b4 ∨ (c = b2 ∨ False)) := Own.one h4 rfl (by intro v hv; simp at hv; subst hv; rfl) (show EC w7 _ [v] _ from ⟨_, rfl, o2⟩) (fun c hc => by rcases hc with rfl | h; exact ⟨by omega, by omega⟩; exact h.elim)
  have o6 : OwF w7 ⟨some ⟨b6, 0, none⟩, 1, 1⟩ [[[v]]] (fun c => c = b6 ∨ (c = b4 ∨ (c = b2 ∨ False))) := Own.one h6 rfl (by intro v hv; simp at hv; subst hv; rfl) (show ER w7 _ [[v]] _ from ⟨_, rfl, o4⟩) (fun c hc => by rcases hc with rfl | rfl | h; exact ⟨by omega, by omega⟩; exact ⟨by omega, by omega⟩; exact h.elim)
  exact ⟨o6.mono fun c hc => by rcases hc with rfl | rfl | rfl | h; exact ⟨by omega, by omega⟩; exact ⟨by omega, by omega⟩; exact ⟨by omega, by omega⟩; exact h.elim, (f3.trans' f5).trans' f7⟩
end Go.Proofs.YtoaoofobidhfjaaGreatDoor
