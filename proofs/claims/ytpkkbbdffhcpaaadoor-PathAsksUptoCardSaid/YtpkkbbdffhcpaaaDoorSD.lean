/- A number in brackets behind the captured text. -/
import Derived.Test.YtpkkbbdffhcpaaaDoorSC
set_option linter.unusedSimpArgs false
set_option linter.unusedVariables false
namespace Go.Proofs.YtpkkbbdffhcpaaaDoor
open Go.V Go.RowKit
section
variable {w : World} {k : Value → World → Prop}
theorem dig (n : Int) (h0 : 0 ≤ n) (h1 : n ≤ 200) (hk : ∀ w', Fr Non w w' → k (.string (mkS (dec n.toNat))) w') : Cl Tryd.prog 33 [.int .i64 n] w k := by
  obtain ⟨q, rfl⟩ : ∃ q : Nat, n = q := ⟨n.toNat, by omega⟩
  exact digits_spec q (by omega) (by simpa using hk)
theorem square_spec {c : Nat} {T : TypeId} (s : Str) (n : Int) (hn : n ≤ 200) (hs : s.length ≤ 2000000000000000) (hB : Blk w c T [.string (mkS s)])
    (hk : ∀ w', Blk w' c T [.string (mkS (s ++ br n))] → Fr (fun g => g = c) w w' → k (.tuple #[]) w') : Cl Tryd.prog 32 [.int .i64 n, .pointer (some ⟨c, 0, none⟩)] w k := by
  refine f32_ok ?_
  unfold f32
  have b6 := dec_len n.toNat
  refine ⟨fun h => ?_, fun h => ?_⟩
  · have h' := of_decide_eq_true h
    rintro w3 rfl
    refine ⟨s, hB.drew.cell rfl, dig n (by omega) hn fun w5 f5 => ⟨f5.ext, dec n.toNat, rfl, by simp; omega, by simp; omega, by simp; omega, ?_⟩⟩
    have hB5 := hB.drew.fr f5 (fun h => h)
    refine ⟨hB5.isS (by simp), hB5.free 0, ?_⟩
    rintro w8 rfl
    have hf : Fr (fun g => g = c) w w5 := (Fr.refl (fun g => g = c) w).drew.trans f5 (fun _ _ h => h.elim)
    have := hk _ (by have := hB5.set 0 (.string (mkS (s ++ (([91] ++ dec n.toNat) ++ [93])))); unfold br; rw [if_pos h']; exact this) (hf.set (a := ⟨c, 0, none⟩) (fun _ => rfl) _)
    exact this
  · have h' := of_decide_eq_false h
    have e : s ++ br n = s := by unfold br; rw [if_neg h']; simp
    exact hk w (by rw [e]; exact hB) (Fr.refl _ _)
end
end Go.Proofs.YtpkkbbdffhcpaaaDoor
