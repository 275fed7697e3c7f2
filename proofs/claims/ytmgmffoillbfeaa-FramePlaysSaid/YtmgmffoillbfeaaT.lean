/- Facts on the types and functions of the program, and each of its functions in a plain form, with the proof that the form serves. -/
import Derived.Test.YtmgmffoillbfeaaRows
import Derived.Test.YtmgmffoillbfeaaV5
namespace Go.Proofs.Ytmgmffoillbfeaa
open Go.V
theorem tA38 : Agg Try.prog 38 2 := ⟨by kernel_rfl, .mk (by kernel_rfl)⟩
theorem tA62 : Agg Try.prog 62 4 := ⟨by kernel_rfl, .mk (by kernel_rfl)⟩
theorem tA67 : Agg Try.prog 67 2 := ⟨by kernel_rfl, .mk (by kernel_rfl)⟩
theorem tA74 : Agg Try.prog 74 2 := ⟨by kernel_rfl, .mk (by kernel_rfl)⟩
theorem tF38_1 : Fld Try.prog 38 1 1 3 0 := ⟨by kernel_rfl, .mk (by kernel_rfl)⟩
theorem tF45_0 : Fld Try.prog 45 0 0 3 0 := ⟨by kernel_rfl, .mk (by kernel_rfl)⟩
theorem tF45_1 : Fld Try.prog 45 1 1 3 0 := ⟨by kernel_rfl, .mk (by kernel_rfl)⟩
theorem tF45_2 : Fld Try.prog 45 2 2 36 0 := ⟨by kernel_rfl, .mk (by kernel_rfl)⟩
theorem tF45_3 : Fld Try.prog 45 3 3 43 0 := ⟨by kernel_rfl, .mk (by kernel_rfl)⟩
theorem tF45_4 : Fld Try.prog 45 4 4 3 0 := ⟨by kernel_rfl, .mk (by kernel_rfl)⟩
theorem tF47_0 : Fld Try.prog 47 0 0 3 0 := ⟨by kernel_rfl, .mk (by kernel_rfl)⟩
theorem tF47_1 : Fld Try.prog 47 1 1 9 0 := ⟨by kernel_rfl, .mk (by kernel_rfl)⟩
theorem tF52_0 : Fld Try.prog 52 0 0 3 0 := ⟨by kernel_rfl, .mk (by kernel_rfl)⟩
theorem tF52_1 : Fld Try.prog 52 1 1 3 0 := ⟨by kernel_rfl, .mk (by kernel_rfl)⟩
theorem tF52_2 : Fld Try.prog 52 2 2 36 0 := ⟨by kernel_rfl, .mk (by kernel_rfl)⟩
theorem tF52_3 : Fld Try.prog 52 3 3 50 0 := ⟨by kernel_rfl, .mk (by kernel_rfl)⟩
theorem tF52_4 : Fld Try.prog 52 4 4 3 0 := ⟨by kernel_rfl, .mk (by kernel_rfl)⟩
theorem tF62_0 : Fld Try.prog 62 0 0 3 0 := ⟨by kernel_rfl, .mk (by kernel_rfl)⟩
theorem tF62_1 : Fld Try.prog 62 1 1 3 0 := ⟨by kernel_rfl, .mk (by kernel_rfl)⟩
theorem tF62_2 : Fld Try.prog 62 2 2 4 0 := ⟨by kernel_rfl, .mk (by kernel_rfl)⟩
theorem tF62_3 : Fld Try.prog 62 3 3 4 0 := ⟨by kernel_rfl, .mk (by kernel_rfl)⟩
theorem tF67_0 : Fld Try.prog 67 0 0 9 0 := ⟨by kernel_rfl, .mk (by kernel_rfl)⟩
theorem tF67_1 : Fld Try.prog 67 1 1 3 0 := ⟨by kernel_rfl, .mk (by kernel_rfl)⟩
theorem tF74_0 : Fld Try.prog 74 0 0 9 0 := ⟨by kernel_rfl, .mk (by kernel_rfl)⟩
theorem tF74_1 : Fld Try.prog 74 1 1 3 0 := ⟨by kernel_rfl, .mk (by kernel_rfl)⟩
theorem tN10 : IsFn Try.prog 10 := .mk (by kernel_rfl)
theorem tN11 : IsFn Try.prog 11 := .mk (by kernel_rfl)
theorem tN12 : IsFn Try.prog 12 := .mk (by kernel_rfl)
theorem tN13 : IsFn Try.prog 13 := .mk (by kernel_rfl)
theorem tN14 : IsFn Try.prog 14 := .mk (by kernel_rfl)
theorem tN15 : IsFn Try.prog 15 := .mk (by kernel_rfl)
theorem tN16 : IsFn Try.prog 16 := .mk (by kernel_rfl)
theorem tN17 : IsFn Try.prog 17 := .mk (by kernel_rfl)
theorem tN18 : IsFn Try.prog 18 := .mk (by kernel_rfl)
theorem tN19 : IsFn Try.prog 19 := .mk (by kernel_rfl)
theorem tN20 : IsFn Try.prog 20 := .mk (by kernel_rfl)
theorem tN21 : IsFn Try.prog 21 := .mk (by kernel_rfl)
theorem tN22 : IsFn Try.prog 22 := .mk (by kernel_rfl)
theorem tN23 : IsFn Try.prog 23 := .mk (by kernel_rfl)
theorem tN24 : IsFn Try.prog 24 := .mk (by kernel_rfl)
theorem tN25 : IsFn Try.prog 25 := .mk (by kernel_rfl)
theorem tN26 : IsFn Try.prog 26 := .mk (by kernel_rfl)
theorem tN27 : IsFn Try.prog 27 := .mk (by kernel_rfl)
theorem tN28 : IsFn Try.prog 28 := .mk (by kernel_rfl)
theorem tN29 : IsFn Try.prog 29 := .mk (by kernel_rfl)
theorem tN30 : IsFn Try.prog 30 := .mk (by kernel_rfl)
theorem tN31 : IsFn Try.prog 31 := .mk (by kernel_rfl)
theorem tN32 : IsFn Try.prog 32 := .mk (by kernel_rfl)
theorem tN33 : IsFn Try.prog 33 := .mk (by kernel_rfl)
theorem tN34 : IsFn Try.prog 34 := .mk (by kernel_rfl)
theorem tN35 : IsFn Try.prog 35 := .mk (by kernel_rfl)
theorem tO26 : One Try.prog 26 := ⟨by kernel_rfl, .mk (by kernel_rfl)⟩
theorem tO3 : One Try.prog 3 := ⟨by kernel_rfl, .mk (by kernel_rfl)⟩
theorem tO36 : One Try.prog 36 := ⟨by kernel_rfl, .mk (by kernel_rfl)⟩
theorem tO4 : One Try.prog 4 := ⟨by kernel_rfl, .mk (by kernel_rfl)⟩
theorem tO43 : One Try.prog 43 := ⟨by kernel_rfl, .mk (by kernel_rfl)⟩
theorem tO5 : One Try.prog 5 := ⟨by kernel_rfl, .mk (by kernel_rfl)⟩
theorem tO50 : One Try.prog 50 := ⟨by kernel_rfl, .mk (by kernel_rfl)⟩
theorem tO9 : One Try.prog 9 := ⟨by kernel_rfl, .mk (by kernel_rfl)⟩
theorem tS3 : Sz Try.prog 3 1 := .mk (by kernel_rfl)
theorem tS38 : Sz Try.prog 38 2 := .mk (by kernel_rfl)
theorem tS47 : Sz Try.prog 47 2 := .mk (by kernel_rfl)
theorem tS5 : Sz Try.prog 5 1 := .mk (by kernel_rfl)
theorem tS67 : Sz Try.prog 67 2 := .mk (by kernel_rfl)
theorem tS74 : Sz Try.prog 74 2 := .mk (by kernel_rfl)
theorem tS9 : Sz Try.prog 9 1 := .mk (by kernel_rfl)
theorem tU26 : Try.prog.underlying 26 = some (.pointer 45) := by kernel_rfl
theorem tU31 : Try.prog.underlying 31 = some (.slice 3) := by kernel_rfl
theorem tU33 : Try.prog.underlying 33 = some (.slice 38) := by kernel_rfl
theorem tU36 : Try.prog.underlying 36 = some (.slice 5) := by kernel_rfl
theorem tU4 : Try.prog.underlying 4 = some (.bool) := by kernel_rfl
theorem tU40 : Try.prog.underlying 40 = some (.slice 47) := by kernel_rfl
theorem tU43 : Try.prog.underlying 43 = some (.slice 67) := by kernel_rfl
theorem tU5 : Try.prog.underlying 5 = some (.int .u8) := by kernel_rfl
theorem tU50 : Try.prog.underlying 50 = some (.slice 74) := by kernel_rfl
theorem tU56 : Try.prog.underlying 56 = some (.slice 9) := by kernel_rfl
theorem tU9 : Try.prog.underlying 9 = some (.string) := by kernel_rfl
theorem tZ3 : Zr Try.prog 3 (.int .i64 0) := .mk (by kernel_rfl)
theorem tZ4 : Zr Try.prog 4 (.bool false) := .mk (by kernel_rfl)
theorem tZ62 : Zr Try.prog 62 (.agg (List.toArray [.int .i64 0, .int .i64 0, .bool false, .bool false])) := .mk (by kernel_rfl)
theorem tZ67 : Zr Try.prog 67 (.agg (List.toArray [.string (mkS []), .int .i64 0])) := .mk (by kernel_rfl)
theorem tZ74 : Zr Try.prog 74 (.agg (List.toArray [.string (mkS []), .int .i64 0])) := .mk (by kernel_rfl)
theorem tZ9 : Zr Try.prog 9 (.string (mkS [])) := .mk (by kernel_rfl)
theorem tB0 : ∀ (y0 : Str) (y1 : Int) (w : World), (Instr.build 38 (List.toArray [(0, .string (mkS y0)), (1, .int .i64 y1)])).run Try.prog w = .ok (.agg (List.toArray [.string (mkS y0), .int .i64 y1])) w := by intros; kernel_rfl
theorem tB1 : ∀ (y0 : Str) (y1 : Int) (y2 : Str) (y3 : Int) (w : World), (Instr.buildSlice 33 2 (List.toArray [(0, .agg (List.toArray [.string (mkS y0), .int .i64 y1])), (1, .agg (List.toArray [.string (mkS y2), .int .i64 y3]))])).run Try.prog w = .ok (.slice (some ⟨w.heap.size, 0, none⟩) 2 2) (w.alloc (.cells (List.toArray [.string (mkS y0), .int .i64 y1, .string (mkS y2), .int .i64 y3]) 38)) := by intros; kernel_rfl
theorem tB2 : ∀  (w : World), (Instr.build 45 (List.toArray [])).run Try.prog w = .ok (.agg (List.toArray [.int .i64 0, .int .i64 0, .slice none 0 0, .slice none 0 0, .int .i64 0])) w := by intros; kernel_rfl
theorem tB3 : ∀ (y0 : Str) (y1 : Int) (w : World), (Instr.buildSlice 33 1 (List.toArray [(0, .agg (List.toArray [.string (mkS y0), .int .i64 y1]))])).run Try.prog w = .ok (.slice (some ⟨w.heap.size, 0, none⟩) 1 1) (w.alloc (.cells (List.toArray [.string (mkS y0), .int .i64 y1]) 38)) := by intros; kernel_rfl
theorem tB4 : ∀ (y0 : Int) (y1 : Int) (w : World), (Instr.buildSlice 36 2 (List.toArray [(0, .int .u8 y0), (1, .int .u8 y1)])).run Try.prog w = .ok (.slice (some ⟨w.heap.size, 0, none⟩) 2 2) (w.alloc (.cells (List.toArray [.int .u8 y0, .int .u8 y1]) 5)) := by intros; kernel_rfl
theorem tB5 : ∀ (y0 : Int) (w : World), (Instr.buildSlice 36 1 (List.toArray [(0, .int .u8 y0)])).run Try.prog w = .ok (.slice (some ⟨w.heap.size, 0, none⟩) 1 1) (w.alloc (.cells (List.toArray [.int .u8 y0]) 5)) := by intros; kernel_rfl
theorem tB6 : ∀ (y0 : Int) (w : World), (Instr.build 45 (List.toArray [(0, .int .i64 y0)])).run Try.prog w = .ok (.agg (List.toArray [.int .i64 y0, .int .i64 0, .slice none 0 0, .slice none 0 0, .int .i64 0])) w := by intros; kernel_rfl
theorem tB7 : ∀ (y0 : Int) (y1 : Int) (w : World), (Instr.build 65 (List.toArray [(0, .int .i64 y0), (1, .int .i64 y1)])).run Try.prog w = .ok (.agg (List.toArray [.int .i64 y0, .int .i64 y1])) w := by intros; kernel_rfl
theorem tB8 : ∀ (y0 : Str) (y1 : Int) (w : World), (Instr.build 67 (List.toArray [(0, .string (mkS y0)), (1, .int .i64 y1)])).run Try.prog w = .ok (.agg (List.toArray [.string (mkS y0), .int .i64 y1])) w := by intros; kernel_rfl
theorem tB9 : ∀ (y0 : Str) (y1 : Int) (w : World), (Instr.buildSlice 43 1 (List.toArray [(0, .agg (List.toArray [.string (mkS y0), .int .i64 y1]))])).run Try.prog w = .ok (.slice (some ⟨w.heap.size, 0, none⟩) 1 1) (w.alloc (.cells (List.toArray [.string (mkS y0), .int .i64 y1]) 67)) := by intros; kernel_rfl
theorem tB10 : ∀ (y0 : Str) (y1 : Int) (y2 : Str) (y3 : Int), eqV Try.prog 4 38 (.agg (List.toArray [.string (mkS y0), .int .i64 y1])) (.agg (List.toArray [.string (mkS y2), .int .i64 y3])) = some ((y0 == y2) && ((y1 == y3) && true)) := by intros; kernel_rfl
theorem tB11 : Try.prog.eqGuardType Try.prog.depth 38 = false := by intros; kernel_rfl
theorem tB12 : ∀ (y0 : Int) (w : World), (Instr.build 52 (List.toArray [(0, .int .i64 y0)])).run Try.prog w = .ok (.agg (List.toArray [.int .i64 y0, .int .i64 0, .slice none 0 0, .slice none 0 0, .int .i64 0])) w := by intros; kernel_rfl
theorem tB13 : ∀ (y0 : Int) (y1 : Int) (y2 : Bool) (y3 : Bool) (w : World), (Instr.build 62 (List.toArray [(0, .int .i64 y0), (1, .int .i64 y1), (2, .bool y2), (3, .bool y3)])).run Try.prog w = .ok (.agg (List.toArray [.int .i64 y0, .int .i64 y1, .bool y2, .bool y3])) w := by intros; kernel_rfl
theorem tB14 : ∀ (y0 : Str) (y1 : Int) (w : World), (Instr.build 74 (List.toArray [(0, .string (mkS y0)), (1, .int .i64 y1)])).run Try.prog w = .ok (.agg (List.toArray [.string (mkS y0), .int .i64 y1])) w := by intros; kernel_rfl
theorem tB15 : ∀ (y0 : Str) (y1 : Int) (w : World), (Instr.buildSlice 50 1 (List.toArray [(0, .agg (List.toArray [.string (mkS y0), .int .i64 y1]))])).run Try.prog w = .ok (.slice (some ⟨w.heap.size, 0, none⟩) 1 1) (w.alloc (.cells (List.toArray [.string (mkS y0), .int .i64 y1]) 74)) := by intros; kernel_rfl
end Go.Proofs.Ytmgmffoillbfeaa
