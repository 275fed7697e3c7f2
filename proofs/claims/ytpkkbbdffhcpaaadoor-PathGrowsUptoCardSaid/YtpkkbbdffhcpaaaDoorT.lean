/- Facts on the types and functions of the program. -/
import Derived.Test.YtpkkbbdffhcpaaaDoorRows
import Derived.Test.YtpkkbbdffhcpaaaDoorVQ
namespace Go.Proofs.YtpkkbbdffhcpaaaDoor
open Go.V
theorem tA117 : Agg Tryd.prog 117 256 := ⟨by kernel_rfl, .mk (by kernel_rfl)⟩
theorem tA126 : Agg Tryd.prog 126 0 := ⟨by kernel_rfl, .mk (by kernel_rfl)⟩
theorem tA141 : Agg Tryd.prog 141 2 := ⟨by kernel_rfl, .mk (by kernel_rfl)⟩
theorem tA23 : Agg Tryd.prog 23 6 := ⟨by kernel_rfl, .mk (by kernel_rfl)⟩
theorem tA33 : Agg Tryd.prog 33 5 := ⟨by kernel_rfl, .mk (by kernel_rfl)⟩
theorem tA36 : Agg Tryd.prog 36 6 := ⟨by kernel_rfl, .mk (by kernel_rfl)⟩
theorem tA49 : Agg Tryd.prog 49 2 := ⟨by kernel_rfl, .mk (by kernel_rfl)⟩
theorem tA63 : Agg Tryd.prog 63 4 := ⟨by kernel_rfl, .mk (by kernel_rfl)⟩
theorem tA79 : Agg Tryd.prog 79 2 := ⟨by kernel_rfl, .mk (by kernel_rfl)⟩
theorem tA97 : Agg Tryd.prog 97 5 := ⟨by kernel_rfl, .mk (by kernel_rfl)⟩
theorem tF141_0 : Fld Tryd.prog 141 0 0 5 0 := ⟨by kernel_rfl, .mk (by kernel_rfl)⟩
theorem tF141_1 : Fld Tryd.prog 141 1 1 5 0 := ⟨by kernel_rfl, .mk (by kernel_rfl)⟩
theorem tF23_0 : Fld Tryd.prog 23 0 0 9 0 := ⟨by kernel_rfl, .mk (by kernel_rfl)⟩
theorem tF23_1 : Fld Tryd.prog 23 1 1 3 0 := ⟨by kernel_rfl, .mk (by kernel_rfl)⟩
theorem tF23_2 : Fld Tryd.prog 23 2 2 3 0 := ⟨by kernel_rfl, .mk (by kernel_rfl)⟩
theorem tF23_3 : Fld Tryd.prog 23 3 3 3 0 := ⟨by kernel_rfl, .mk (by kernel_rfl)⟩
theorem tF23_4 : Fld Tryd.prog 23 4 4 3 0 := ⟨by kernel_rfl, .mk (by kernel_rfl)⟩
theorem tF23_5 : Fld Tryd.prog 23 5 5 3 0 := ⟨by kernel_rfl, .mk (by kernel_rfl)⟩
theorem tF33_0 : Fld Tryd.prog 33 0 0 5 0 := ⟨by kernel_rfl, .mk (by kernel_rfl)⟩
theorem tF33_1 : Fld Tryd.prog 33 1 1 5 0 := ⟨by kernel_rfl, .mk (by kernel_rfl)⟩
theorem tF33_2 : Fld Tryd.prog 33 2 2 5 0 := ⟨by kernel_rfl, .mk (by kernel_rfl)⟩
theorem tF33_3 : Fld Tryd.prog 33 3 3 5 0 := ⟨by kernel_rfl, .mk (by kernel_rfl)⟩
theorem tF33_4 : Fld Tryd.prog 33 4 4 5 0 := ⟨by kernel_rfl, .mk (by kernel_rfl)⟩
theorem tF36_0 : Fld Tryd.prog 36 0 0 33 4 := ⟨by kernel_rfl, .mk (by kernel_rfl)⟩
theorem tF36_1 : Fld Tryd.prog 36 1 5 34 0 := ⟨by kernel_rfl, .mk (by kernel_rfl)⟩
theorem tF49_0 : Fld Tryd.prog 49 0 0 9 0 := ⟨by kernel_rfl, .mk (by kernel_rfl)⟩
theorem tF49_1 : Fld Tryd.prog 49 1 1 47 0 := ⟨by kernel_rfl, .mk (by kernel_rfl)⟩
theorem tF54_0 : Fld Tryd.prog 54 0 0 9 0 := ⟨by kernel_rfl, .mk (by kernel_rfl)⟩
theorem tF54_1 : Fld Tryd.prog 54 1 1 4 0 := ⟨by kernel_rfl, .mk (by kernel_rfl)⟩
theorem tN10 : IsFn Tryd.prog 10 := .mk (by kernel_rfl)
theorem tN101 : IsFn Tryd.prog 101 := .mk (by kernel_rfl)
theorem tN105 : IsFn Tryd.prog 105 := .mk (by kernel_rfl)
theorem tN107 : IsFn Tryd.prog 107 := .mk (by kernel_rfl)
theorem tN109 : IsFn Tryd.prog 109 := .mk (by kernel_rfl)
theorem tN11 : IsFn Tryd.prog 11 := .mk (by kernel_rfl)
theorem tN110 : IsFn Tryd.prog 110 := .mk (by kernel_rfl)
theorem tN111 : IsFn Tryd.prog 111 := .mk (by kernel_rfl)
theorem tN112 : IsFn Tryd.prog 112 := .mk (by kernel_rfl)
theorem tN113 : IsFn Tryd.prog 113 := .mk (by kernel_rfl)
theorem tN114 : IsFn Tryd.prog 114 := .mk (by kernel_rfl)
theorem tN115 : IsFn Tryd.prog 115 := .mk (by kernel_rfl)
theorem tN12 : IsFn Tryd.prog 12 := .mk (by kernel_rfl)
theorem tN120 : IsFn Tryd.prog 120 := .mk (by kernel_rfl)
theorem tN13 : IsFn Tryd.prog 13 := .mk (by kernel_rfl)
theorem tN14 : IsFn Tryd.prog 14 := .mk (by kernel_rfl)
theorem tN15 : IsFn Tryd.prog 15 := .mk (by kernel_rfl)
theorem tN16 : IsFn Tryd.prog 16 := .mk (by kernel_rfl)
theorem tN17 : IsFn Tryd.prog 17 := .mk (by kernel_rfl)
theorem tN18 : IsFn Tryd.prog 18 := .mk (by kernel_rfl)
theorem tN19 : IsFn Tryd.prog 19 := .mk (by kernel_rfl)
theorem tN20 : IsFn Tryd.prog 20 := .mk (by kernel_rfl)
theorem tN21 : IsFn Tryd.prog 21 := .mk (by kernel_rfl)
theorem tN22 : IsFn Tryd.prog 22 := .mk (by kernel_rfl)
theorem tN23 : IsFn Tryd.prog 23 := .mk (by kernel_rfl)
theorem tN24 : IsFn Tryd.prog 24 := .mk (by kernel_rfl)
theorem tN25 : IsFn Tryd.prog 25 := .mk (by kernel_rfl)
theorem tN26 : IsFn Tryd.prog 26 := .mk (by kernel_rfl)
theorem tN27 : IsFn Tryd.prog 27 := .mk (by kernel_rfl)
theorem tN28 : IsFn Tryd.prog 28 := .mk (by kernel_rfl)
theorem tN29 : IsFn Tryd.prog 29 := .mk (by kernel_rfl)
theorem tN30 : IsFn Tryd.prog 30 := .mk (by kernel_rfl)
theorem tN31 : IsFn Tryd.prog 31 := .mk (by kernel_rfl)
theorem tN32 : IsFn Tryd.prog 32 := .mk (by kernel_rfl)
theorem tN33 : IsFn Tryd.prog 33 := .mk (by kernel_rfl)
theorem tN34 : IsFn Tryd.prog 34 := .mk (by kernel_rfl)
theorem tN35 : IsFn Tryd.prog 35 := .mk (by kernel_rfl)
theorem tN36 : IsFn Tryd.prog 36 := .mk (by kernel_rfl)
theorem tN37 : IsFn Tryd.prog 37 := .mk (by kernel_rfl)
theorem tN38 : IsFn Tryd.prog 38 := .mk (by kernel_rfl)
theorem tN39 : IsFn Tryd.prog 39 := .mk (by kernel_rfl)
theorem tN40 : IsFn Tryd.prog 40 := .mk (by kernel_rfl)
theorem tN41 : IsFn Tryd.prog 41 := .mk (by kernel_rfl)
theorem tN42 : IsFn Tryd.prog 42 := .mk (by kernel_rfl)
theorem tN43 : IsFn Tryd.prog 43 := .mk (by kernel_rfl)
theorem tN44 : IsFn Tryd.prog 44 := .mk (by kernel_rfl)
theorem tN45 : IsFn Tryd.prog 45 := .mk (by kernel_rfl)
theorem tN46 : IsFn Tryd.prog 46 := .mk (by kernel_rfl)
theorem tN47 : IsFn Tryd.prog 47 := .mk (by kernel_rfl)
theorem tN48 : IsFn Tryd.prog 48 := .mk (by kernel_rfl)
theorem tN49 : IsFn Tryd.prog 49 := .mk (by kernel_rfl)
theorem tN50 : IsFn Tryd.prog 50 := .mk (by kernel_rfl)
theorem tN51 : IsFn Tryd.prog 51 := .mk (by kernel_rfl)
theorem tN52 : IsFn Tryd.prog 52 := .mk (by kernel_rfl)
theorem tN53 : IsFn Tryd.prog 53 := .mk (by kernel_rfl)
theorem tN54 : IsFn Tryd.prog 54 := .mk (by kernel_rfl)
theorem tN55 : IsFn Tryd.prog 55 := .mk (by kernel_rfl)
theorem tN56 : IsFn Tryd.prog 56 := .mk (by kernel_rfl)
theorem tN57 : IsFn Tryd.prog 57 := .mk (by kernel_rfl)
theorem tN58 : IsFn Tryd.prog 58 := .mk (by kernel_rfl)
theorem tN59 : IsFn Tryd.prog 59 := .mk (by kernel_rfl)
theorem tN61 : IsFn Tryd.prog 61 := .mk (by kernel_rfl)
theorem tN62 : IsFn Tryd.prog 62 := .mk (by kernel_rfl)
theorem tN63 : IsFn Tryd.prog 63 := .mk (by kernel_rfl)
theorem tN64 : IsFn Tryd.prog 64 := .mk (by kernel_rfl)
theorem tN65 : IsFn Tryd.prog 65 := .mk (by kernel_rfl)
theorem tN67 : IsFn Tryd.prog 67 := .mk (by kernel_rfl)
theorem tN69 : IsFn Tryd.prog 69 := .mk (by kernel_rfl)
theorem tN71 : IsFn Tryd.prog 71 := .mk (by kernel_rfl)
theorem tN72 : IsFn Tryd.prog 72 := .mk (by kernel_rfl)
theorem tN74 : IsFn Tryd.prog 74 := .mk (by kernel_rfl)
theorem tN76 : IsFn Tryd.prog 76 := .mk (by kernel_rfl)
theorem tN78 : IsFn Tryd.prog 78 := .mk (by kernel_rfl)
theorem tN8 : IsFn Tryd.prog 8 := .mk (by kernel_rfl)
theorem tN80 : IsFn Tryd.prog 80 := .mk (by kernel_rfl)
theorem tN83 : IsFn Tryd.prog 83 := .mk (by kernel_rfl)
theorem tN84 : IsFn Tryd.prog 84 := .mk (by kernel_rfl)
theorem tN85 : IsFn Tryd.prog 85 := .mk (by kernel_rfl)
theorem tN86 : IsFn Tryd.prog 86 := .mk (by kernel_rfl)
theorem tN87 : IsFn Tryd.prog 87 := .mk (by kernel_rfl)
theorem tN88 : IsFn Tryd.prog 88 := .mk (by kernel_rfl)
theorem tN89 : IsFn Tryd.prog 89 := .mk (by kernel_rfl)
theorem tN9 : IsFn Tryd.prog 9 := .mk (by kernel_rfl)
theorem tN90 : IsFn Tryd.prog 90 := .mk (by kernel_rfl)
theorem tN91 : IsFn Tryd.prog 91 := .mk (by kernel_rfl)
theorem tN92 : IsFn Tryd.prog 92 := .mk (by kernel_rfl)
theorem tN93 : IsFn Tryd.prog 93 := .mk (by kernel_rfl)
theorem tN94 : IsFn Tryd.prog 94 := .mk (by kernel_rfl)
theorem tN95 : IsFn Tryd.prog 95 := .mk (by kernel_rfl)
theorem tN96 : IsFn Tryd.prog 96 := .mk (by kernel_rfl)
theorem tN97 : IsFn Tryd.prog 97 := .mk (by kernel_rfl)
theorem tN98 : IsFn Tryd.prog 98 := .mk (by kernel_rfl)
theorem tN99 : IsFn Tryd.prog 99 := .mk (by kernel_rfl)
theorem tO111 : One Tryd.prog 111 := ⟨by kernel_rfl, .mk (by kernel_rfl)⟩
theorem tO3 : One Tryd.prog 3 := ⟨by kernel_rfl, .mk (by kernel_rfl)⟩
theorem tO34 : One Tryd.prog 34 := ⟨by kernel_rfl, .mk (by kernel_rfl)⟩
theorem tO4 : One Tryd.prog 4 := ⟨by kernel_rfl, .mk (by kernel_rfl)⟩
theorem tO47 : One Tryd.prog 47 := ⟨by kernel_rfl, .mk (by kernel_rfl)⟩
theorem tO5 : One Tryd.prog 5 := ⟨by kernel_rfl, .mk (by kernel_rfl)⟩
theorem tO64 : One Tryd.prog 64 := ⟨by kernel_rfl, .mk (by kernel_rfl)⟩
theorem tO65 : One Tryd.prog 65 := ⟨by kernel_rfl, .mk (by kernel_rfl)⟩
theorem tO66 : One Tryd.prog 66 := ⟨by kernel_rfl, .mk (by kernel_rfl)⟩
theorem tO9 : One Tryd.prog 9 := ⟨by kernel_rfl, .mk (by kernel_rfl)⟩
theorem tS141 : Sz Tryd.prog 141 2 := .mk (by kernel_rfl)
theorem tS3 : Sz Tryd.prog 3 1 := .mk (by kernel_rfl)
theorem tS4 : Sz Tryd.prog 4 1 := .mk (by kernel_rfl)
theorem tS49 : Sz Tryd.prog 49 2 := .mk (by kernel_rfl)
theorem tS5 : Sz Tryd.prog 5 1 := .mk (by kernel_rfl)
theorem tS64 : Sz Tryd.prog 64 1 := .mk (by kernel_rfl)
theorem tS65 : Sz Tryd.prog 65 1 := .mk (by kernel_rfl)
theorem tS66 : Sz Tryd.prog 66 1 := .mk (by kernel_rfl)
theorem tS9 : Sz Tryd.prog 9 1 := .mk (by kernel_rfl)
theorem tU117 : Tryd.prog.underlying 117 = some (.array 256 4) := by kernel_rfl
theorem tU138 : Tryd.prog.underlying 138 = some (.array 256 5) := by kernel_rfl
theorem tU142 : Tryd.prog.underlying 142 = some (.array 16 141) := by kernel_rfl
theorem tU21 : Tryd.prog.underlying 21 = some (.int .i32) := by kernel_rfl
theorem tU3 : Tryd.prog.underlying 3 = some (.int .i64) := by kernel_rfl
theorem tU34 : Tryd.prog.underlying 34 = some (.slice 49) := by kernel_rfl
theorem tU4 : Tryd.prog.underlying 4 = some (.bool) := by kernel_rfl
theorem tU47 : Tryd.prog.underlying 47 = some (.slice 64) := by kernel_rfl
theorem tU5 : Tryd.prog.underlying 5 = some (.int .u8) := by kernel_rfl
theorem tU63 : Tryd.prog.underlying 63 = some (.array 4 3) := by kernel_rfl
theorem tU64 : Tryd.prog.underlying 64 = some (.slice 65) := by kernel_rfl
theorem tU65 : Tryd.prog.underlying 65 = some (.slice 66) := by kernel_rfl
theorem tU66 : Tryd.prog.underlying 66 = some (.slice 9) := by kernel_rfl
theorem tU79 : Tryd.prog.underlying 79 = some (.array 2 9) := by kernel_rfl
theorem tU9 : Tryd.prog.underlying 9 = some (.string) := by kernel_rfl
theorem tU90 : Tryd.prog.underlying 90 = some (.array 20 5) := by kernel_rfl
theorem tU91 : Tryd.prog.underlying 91 = some (.int .u64) := by kernel_rfl
theorem tU92 : Tryd.prog.underlying 92 = some (.slice 5) := by kernel_rfl
theorem tU97 : Tryd.prog.underlying 97 = some (.array 5 5) := by kernel_rfl
theorem tZ111 : Zr Tryd.prog 111 (.nilFunc) := .mk (by kernel_rfl)
theorem tZ117 : Zr Tryd.prog 117 (.agg (List.toArray (List.replicate 256 (.bool false)))) := .mk (by kernel_rfl)
theorem tZ126 : Zr Tryd.prog 126 (.agg (List.toArray [])) := .mk (by kernel_rfl)
theorem tZ141 : Zr Tryd.prog 141 (.agg (List.toArray [.int .u8 0, .int .u8 0])) := .mk (by kernel_rfl)
theorem tZ23 : Zr Tryd.prog 23 (.agg (List.toArray [.string (mkS []), .int .i64 0, .int .i64 0, .int .i64 0, .int .i64 0, .int .i64 0])) := .mk (by kernel_rfl)
theorem tZ33 : Zr Tryd.prog 33 (.agg (List.toArray [.int .u8 0, .int .u8 0, .int .u8 0, .int .u8 0, .int .u8 0])) := .mk (by kernel_rfl)
theorem tZ36 : Zr Tryd.prog 36 (.agg (List.toArray [.int .u8 0, .int .u8 0, .int .u8 0, .int .u8 0, .int .u8 0, .slice none 0 0])) := .mk (by kernel_rfl)
theorem tZ49 : Zr Tryd.prog 49 (.agg (List.toArray [.string (mkS []), .slice none 0 0])) := .mk (by kernel_rfl)
theorem tZ63 : Zr Tryd.prog 63 (.agg (List.toArray [.int .i64 0, .int .i64 0, .int .i64 0, .int .i64 0])) := .mk (by kernel_rfl)
theorem tZ79 : Zr Tryd.prog 79 (.agg (List.toArray [.string (mkS []), .string (mkS [])])) := .mk (by kernel_rfl)
theorem tZ9 : Zr Tryd.prog 9 (.string (mkS [])) := .mk (by kernel_rfl)
theorem tZ90 : Zr Tryd.prog 90 (.agg (List.toArray [.int .u8 0, .int .u8 0, .int .u8 0, .int .u8 0, .int .u8 0, .int .u8 0, .int .u8 0, .int .u8 0, .int .u8 0, .int .u8 0, .int .u8 0, .int .u8 0, .int .u8 0, .int .u8 0, .int .u8 0, .int .u8 0, .int .u8 0, .int .u8 0, .int .u8 0, .int .u8 0])) := .mk (by kernel_rfl)
theorem tZ97 : Zr Tryd.prog 97 (.agg (List.toArray [.int .u8 0, .int .u8 0, .int .u8 0, .int .u8 0, .int .u8 0])) := .mk (by kernel_rfl)
theorem tB0 : ∀ (y0 : Str) (y1 : Int) (y2 : Int) (y3 : Int) (y4 : Int) (y5 : Int) (y6 : Str) (y7 : Int) (y8 : Int) (y9 : Int) (y10 : Int) (y11 : Int), eqV Tryd.prog 4 23 (.agg (List.toArray [.string (mkS y0), .int .i64 y1, .int .i64 y2, .int .i64 y3, .int .i64 y4, .int .i64 y5])) (.agg (List.toArray [.string (mkS y6), .int .i64 y7, .int .i64 y8, .int .i64 y9, .int .i64 y10, .int .i64 y11])) = some ((y0 == y6) && ((y1 == y7) && ((y2 == y8) && ((y3 == y9) && ((y4 == y10) && ((y5 == y11) && true)))))) := by intros; kernel_rfl
theorem tB1 : Tryd.prog.eqGuardType Tryd.prog.depth 23 = false := by intros; kernel_rfl
theorem tB2 : ∀  (w : World), (Instr.build 23 (List.toArray [])).run Tryd.prog w = .ok (.agg (List.toArray [.string (mkS []), .int .i64 0, .int .i64 0, .int .i64 0, .int .i64 0, .int .i64 0])) w := by intros; kernel_rfl
theorem tB3 : ∀ (y0 : Str) (w : World), (Instr.build 23 (List.toArray [(0, .string (mkS y0))])).run Tryd.prog w = .ok (.agg (List.toArray [.string (mkS y0), .int .i64 0, .int .i64 0, .int .i64 0, .int .i64 0, .int .i64 0])) w := by intros; kernel_rfl
theorem tB4 : ∀ (y0 : Str) (w : World), (Instr.build 54 (List.toArray [(0, .string (mkS y0))])).run Tryd.prog w = .ok (.agg (List.toArray [.string (mkS y0), .bool false])) w := by intros; kernel_rfl
theorem tB5 : ∀ (y0 : Str) (y1 : Int) (w : World), (Instr.build 23 (List.toArray [(0, .string (mkS y0)), (1, .int .i64 y1)])).run Tryd.prog w = .ok (.agg (List.toArray [.string (mkS y0), .int .i64 y1, .int .i64 0, .int .i64 0, .int .i64 0, .int .i64 0])) w := by intros; kernel_rfl
theorem tB6 : ∀ (y0 : Int) (y1 : Int) (y2 : Int) (y3 : Int) (w : World), (Instr.build 63 (List.toArray [(0, .int .i64 y0), (1, .int .i64 y1), (2, .int .i64 y2), (3, .int .i64 y3)])).run Tryd.prog w = .ok (.agg (List.toArray [.int .i64 y0, .int .i64 y1, .int .i64 y2, .int .i64 y3])) w := by intros; kernel_rfl
theorem tB7 : ∀ (y0 : Int) (w : World), (Instr.buildSlice 92 1 (List.toArray [(0, .int .u8 y0)])).run Tryd.prog w = .ok (.slice (some ⟨w.heap.size, 0, none⟩) 1 1) (w.alloc (.cells (List.toArray [.int .u8 y0]) 5)) := by intros; kernel_rfl
theorem tB8 : ∀ (y0 : Str) (y1 : Int) (y2 : Int) (y3 : Int) (y4 : Int) (y5 : Int) (w : World), (Instr.build 23 (List.toArray [(0, .string (mkS y0)), (1, .int .i64 y1), (2, .int .i64 y2), (3, .int .i64 y3), (4, .int .i64 y4), (5, .int .i64 y5)])).run Tryd.prog w = .ok (.agg (List.toArray [.string (mkS y0), .int .i64 y1, .int .i64 y2, .int .i64 y3, .int .i64 y4, .int .i64 y5])) w := by intros; kernel_rfl
theorem tB9 : ∀  (w : World), (Instr.build 36 (List.toArray [])).run Tryd.prog w = .ok (.agg (List.toArray [.int .u8 0, .int .u8 0, .int .u8 0, .int .u8 0, .int .u8 0, .slice none 0 0])) w := by intros; kernel_rfl
theorem tB10 : ∀ (y0 : Int) (y1 : Int) (y2 : Int) (y3 : Int) (y4 : Int) (y5 : Sl) (w : World), (Instr.build 36 (List.toArray [(0, .agg (List.toArray [.int .u8 y0, .int .u8 y1, .int .u8 y2, .int .u8 y3, .int .u8 y4])), (1, .slice y5.base y5.len y5.cap)])).run Tryd.prog w = .ok (.agg (List.toArray [.int .u8 y0, .int .u8 y1, .int .u8 y2, .int .u8 y3, .int .u8 y4, .slice y5.base y5.len y5.cap])) w := by intros; kernel_rfl
theorem tB11 : ∀ (y0 : Str) (w : World), (Instr.build 49 (List.toArray [(0, .string (mkS y0))])).run Tryd.prog w = .ok (.agg (List.toArray [.string (mkS y0), .slice none 0 0])) w := by intros; kernel_rfl
theorem tB12 : ∀ (y0 : Str) (y1a : Option Addr) (y1b : Nat) (y1c : Nat) (w : World), (Instr.buildSlice 34 1 (List.toArray [(0, .agg (List.toArray [.string (mkS y0), .slice y1a y1b y1c]))])).run Tryd.prog w = .ok (.slice (some ⟨w.heap.size, 0, none⟩) 1 1) (w.alloc (.cells (List.toArray [.string (mkS y0), .slice y1a y1b y1c]) 49)) := by intros; kernel_rfl
theorem tB13 : ∀ (y0 : Int) (y1 : Int) (y2 : Int) (y3 : Int) (y4 : Int) (y5 : Int) (y6 : Int) (y7 : Int) (y8 : Int) (y9 : Int), eqV Tryd.prog 4 33 (.agg (List.toArray [.int .u8 y0, .int .u8 y1, .int .u8 y2, .int .u8 y3, .int .u8 y4])) (.agg (List.toArray [.int .u8 y5, .int .u8 y6, .int .u8 y7, .int .u8 y8, .int .u8 y9])) = some ((y0 == y5) && ((y1 == y6) && ((y2 == y7) && ((y3 == y8) && ((y4 == y9) && true))))) := by intros; kernel_rfl
theorem tB14 : Tryd.prog.eqGuardType Tryd.prog.depth 33 = false := by intros; kernel_rfl
theorem tB15 : ∀ (y0 : Str) (y1 : Str) (w : World), (Instr.build 79 (List.toArray [(0, .string (mkS y0)), (1, .string (mkS y1))])).run Tryd.prog w = .ok (.agg (List.toArray [.string (mkS y0), .string (mkS y1)])) w := by intros; kernel_rfl
theorem tB16 : ∀ (y0 : Int) (y1 : Int) (y2 : Int) (y3 : Int) (w : World), (Instr.buildSlice 92 4 (List.toArray [(0, .int .u8 y0), (1, .int .u8 y1), (2, .int .u8 y2), (3, .int .u8 y3)])).run Tryd.prog w = .ok (.slice (some ⟨w.heap.size, 0, none⟩) 4 4) (w.alloc (.cells (List.toArray [.int .u8 y0, .int .u8 y1, .int .u8 y2, .int .u8 y3]) 5)) := by intros; kernel_rfl
theorem tB17 : ∀  (w : World), (Instr.buildSlice 34 0 (List.toArray [])).run Tryd.prog w = .ok (.slice (some ⟨w.heap.size, 0, none⟩) 0 0) (w.alloc (.cells (List.toArray []) 49)) := by intros; kernel_rfl
theorem tB18 : ∀ (y0 : Int) (y1 : Int) (y2 : Int) (y3 : Int) (y4 : Int) (w : World), (Instr.build 36 (List.toArray [(0, .agg (List.toArray [.int .u8 y0, .int .u8 y1, .int .u8 y2, .int .u8 y3, .int .u8 y4]))])).run Tryd.prog w = .ok (.agg (List.toArray [.int .u8 y0, .int .u8 y1, .int .u8 y2, .int .u8 y3, .int .u8 y4, .slice none 0 0])) w := by intros; kernel_rfl
theorem tB19 : ∀ (y0 : Str) (y1 : Sl) (w : World), (Instr.build 49 (List.toArray [(0, .string (mkS y0)), (1, .slice y1.base y1.len y1.cap)])).run Tryd.prog w = .ok (.agg (List.toArray [.string (mkS y0), .slice y1.base y1.len y1.cap])) w := by intros; kernel_rfl
theorem tB20 : ∀ (y0 : Str) (y1 : Sl) (w : World), (Instr.buildSlice 34 1 (List.toArray [(0, .agg (List.toArray [.string (mkS y0), .slice y1.base y1.len y1.cap]))])).run Tryd.prog w = .ok (.slice (some ⟨w.heap.size, 0, none⟩) 1 1) (w.alloc (.cells (List.toArray [.string (mkS y0), .slice y1.base y1.len y1.cap]) 49)) := by intros; kernel_rfl
theorem tB21 : ∀ (y0 : Int) (y1 : Int) (y2 : Int) (y3 : Int) (y4 : Int) (w : World), (Instr.build 33 (List.toArray [(0, .int .u8 y0), (1, .int .u8 y1), (2, .int .u8 y2), (3, .int .u8 y3), (4, .int .u8 y4)])).run Tryd.prog w = .ok (.agg (List.toArray [.int .u8 y0, .int .u8 y1, .int .u8 y2, .int .u8 y3, .int .u8 y4])) w := by intros; kernel_rfl
theorem tB22 : ∀ (y0 : Int) (y1 : Int) (y2 : Int) (y3 : Int) (y4 : Int) (w : World), (Instr.build 97 (List.toArray [(0, .int .u8 y0), (1, .int .u8 y1), (2, .int .u8 y2), (3, .int .u8 y3), (4, .int .u8 y4)])).run Tryd.prog w = .ok (.agg (List.toArray [.int .u8 y0, .int .u8 y1, .int .u8 y2, .int .u8 y3, .int .u8 y4])) w := by intros; kernel_rfl
theorem tB23 : ∀ (y0 : Str) (y1 : Int) (w : World), (Instr.build 23 (List.toArray [(0, .string (mkS y0)), (2, .int .i64 y1)])).run Tryd.prog w = .ok (.agg (List.toArray [.string (mkS y0), .int .i64 0, .int .i64 y1, .int .i64 0, .int .i64 0, .int .i64 0])) w := by intros; kernel_rfl
theorem tB24 : ∀ (y0a : Option Addr) (y0b : Nat) (y0c : Nat) (w : World), (Instr.buildSlice 47 1 (List.toArray [(0, .slice y0a y0b y0c)])).run Tryd.prog w = .ok (.slice (some ⟨w.heap.size, 0, none⟩) 1 1) (w.alloc (.cells (List.toArray [.slice y0a y0b y0c]) 64)) := by intros; kernel_rfl
theorem tB25 : ∀ (y0a : Option Addr) (y0b : Nat) (y0c : Nat) (w : World), (Instr.buildSlice 64 1 (List.toArray [(0, .slice y0a y0b y0c)])).run Tryd.prog w = .ok (.slice (some ⟨w.heap.size, 0, none⟩) 1 1) (w.alloc (.cells (List.toArray [.slice y0a y0b y0c]) 65)) := by intros; kernel_rfl
theorem tB26 : ∀ (y0a : Option Addr) (y0b : Nat) (y0c : Nat) (w : World), (Instr.buildSlice 65 1 (List.toArray [(0, .slice y0a y0b y0c)])).run Tryd.prog w = .ok (.slice (some ⟨w.heap.size, 0, none⟩) 1 1) (w.alloc (.cells (List.toArray [.slice y0a y0b y0c]) 66)) := by intros; kernel_rfl
theorem tB27 : ∀ (y0 : Str) (w : World), (Instr.buildSlice 66 1 (List.toArray [(0, .string (mkS y0))])).run Tryd.prog w = .ok (.slice (some ⟨w.heap.size, 0, none⟩) 1 1) (w.alloc (.cells (List.toArray [.string (mkS y0)]) 9)) := by intros; kernel_rfl
theorem tB28 : ∀ (y0 : Sl) (w : World), (Instr.buildSlice 47 1 (List.toArray [(0, .slice y0.base y0.len y0.cap)])).run Tryd.prog w = .ok (.slice (some ⟨w.heap.size, 0, none⟩) 1 1) (w.alloc (.cells (List.toArray [.slice y0.base y0.len y0.cap]) 64)) := by intros; kernel_rfl
theorem tB29 : ∀  (w : World), (Instr.build 126 (List.toArray [])).run Tryd.prog w = .ok (.agg (List.toArray [])) w := by intros; kernel_rfl
theorem tB30 : ∀  (w : World), (Instr.buildSlice 47 0 (List.toArray [])).run Tryd.prog w = .ok (.slice (some ⟨w.heap.size, 0, none⟩) 0 0) (w.alloc (.cells (List.toArray []) 64)) := by intros; kernel_rfl
theorem tB31 : ∀  (w : World), (Instr.buildSlice 64 0 (List.toArray [])).run Tryd.prog w = .ok (.slice (some ⟨w.heap.size, 0, none⟩) 0 0) (w.alloc (.cells (List.toArray []) 65)) := by intros; kernel_rfl
theorem tB32 : ∀  (w : World), (Instr.buildSlice 65 0 (List.toArray [])).run Tryd.prog w = .ok (.slice (some ⟨w.heap.size, 0, none⟩) 0 0) (w.alloc (.cells (List.toArray []) 66)) := by intros; kernel_rfl
theorem tB33 : ∀  (w : World), (Instr.buildSlice 66 0 (List.toArray [])).run Tryd.prog w = .ok (.slice (some ⟨w.heap.size, 0, none⟩) 0 0) (w.alloc (.cells (List.toArray []) 9)) := by intros; kernel_rfl
theorem tB34 : ∀ (y0 : Sl) (w : World), (Instr.buildSlice 65 1 (List.toArray [(0, .slice y0.base y0.len y0.cap)])).run Tryd.prog w = .ok (.slice (some ⟨w.heap.size, 0, none⟩) 1 1) (w.alloc (.cells (List.toArray [.slice y0.base y0.len y0.cap]) 66)) := by intros; kernel_rfl
theorem tB35 : ∀ (y0 : Sl) (w : World), (Instr.buildSlice 64 1 (List.toArray [(0, .slice y0.base y0.len y0.cap)])).run Tryd.prog w = .ok (.slice (some ⟨w.heap.size, 0, none⟩) 1 1) (w.alloc (.cells (List.toArray [.slice y0.base y0.len y0.cap]) 65)) := by intros; kernel_rfl
end Go.Proofs.YtpkkbbdffhcpaaaDoor
