/- Facts on the types and functions of the program. -/
import Derived.Test.YtgnddjnnkghedaaGreatDoorRows
import Derived.Test.YtgnddjnnkghedaaGreatDoorVQ
namespace Go.Proofs.YtgnddjnnkghedaaGreatDoor
open Go.V
theorem tA137 : Agg Tryz.prog 137 2 := ⟨by kernel_rfl, .mk (by kernel_rfl)⟩
theorem tA227 : Agg Tryz.prog 227 5 := ⟨by kernel_rfl, .mk (by kernel_rfl)⟩
theorem tA23 : Agg Tryz.prog 23 5 := ⟨by kernel_rfl, .mk (by kernel_rfl)⟩
theorem tA240 : Agg Tryz.prog 240 0 := ⟨by kernel_rfl, .mk (by kernel_rfl)⟩
theorem tA253 : Agg Tryz.prog 253 256 := ⟨by kernel_rfl, .mk (by kernel_rfl)⟩
theorem tA26 : Agg Tryz.prog 26 6 := ⟨by kernel_rfl, .mk (by kernel_rfl)⟩
theorem tA268 : Agg Tryz.prog 268 2 := ⟨by kernel_rfl, .mk (by kernel_rfl)⟩
theorem tA28 : Agg Tryz.prog 28 6 := ⟨by kernel_rfl, .mk (by kernel_rfl)⟩
theorem tA66 : Agg Tryz.prog 66 2 := ⟨by kernel_rfl, .mk (by kernel_rfl)⟩
theorem tF144_0 : Fld Tryz.prog 144 0 0 9 0 := ⟨by kernel_rfl, .mk (by kernel_rfl)⟩
theorem tF144_1 : Fld Tryz.prog 144 1 1 4 0 := ⟨by kernel_rfl, .mk (by kernel_rfl)⟩
theorem tF23_0 : Fld Tryz.prog 23 0 0 5 0 := ⟨by kernel_rfl, .mk (by kernel_rfl)⟩
theorem tF23_1 : Fld Tryz.prog 23 1 1 5 0 := ⟨by kernel_rfl, .mk (by kernel_rfl)⟩
theorem tF23_2 : Fld Tryz.prog 23 2 2 5 0 := ⟨by kernel_rfl, .mk (by kernel_rfl)⟩
theorem tF23_3 : Fld Tryz.prog 23 3 3 5 0 := ⟨by kernel_rfl, .mk (by kernel_rfl)⟩
theorem tF23_4 : Fld Tryz.prog 23 4 4 5 0 := ⟨by kernel_rfl, .mk (by kernel_rfl)⟩
theorem tF26_0 : Fld Tryz.prog 26 0 0 23 4 := ⟨by kernel_rfl, .mk (by kernel_rfl)⟩
theorem tF26_1 : Fld Tryz.prog 26 1 5 24 0 := ⟨by kernel_rfl, .mk (by kernel_rfl)⟩
theorem tF268_0 : Fld Tryz.prog 268 0 0 5 0 := ⟨by kernel_rfl, .mk (by kernel_rfl)⟩
theorem tF268_1 : Fld Tryz.prog 268 1 1 5 0 := ⟨by kernel_rfl, .mk (by kernel_rfl)⟩
theorem tF28_0 : Fld Tryz.prog 28 0 0 9 0 := ⟨by kernel_rfl, .mk (by kernel_rfl)⟩
theorem tF28_1 : Fld Tryz.prog 28 1 1 3 0 := ⟨by kernel_rfl, .mk (by kernel_rfl)⟩
theorem tF28_2 : Fld Tryz.prog 28 2 2 3 0 := ⟨by kernel_rfl, .mk (by kernel_rfl)⟩
theorem tF28_3 : Fld Tryz.prog 28 3 3 3 0 := ⟨by kernel_rfl, .mk (by kernel_rfl)⟩
theorem tF28_4 : Fld Tryz.prog 28 4 4 3 0 := ⟨by kernel_rfl, .mk (by kernel_rfl)⟩
theorem tF28_5 : Fld Tryz.prog 28 5 5 3 0 := ⟨by kernel_rfl, .mk (by kernel_rfl)⟩
theorem tF66_0 : Fld Tryz.prog 66 0 0 9 0 := ⟨by kernel_rfl, .mk (by kernel_rfl)⟩
theorem tF66_1 : Fld Tryz.prog 66 1 1 45 0 := ⟨by kernel_rfl, .mk (by kernel_rfl)⟩
theorem tN10 : IsFn Tryz.prog 10 := .mk (by kernel_rfl)
theorem tN116 : IsFn Tryz.prog 116 := .mk (by kernel_rfl)
theorem tN118 : IsFn Tryz.prog 118 := .mk (by kernel_rfl)
theorem tN12 : IsFn Tryz.prog 12 := .mk (by kernel_rfl)
theorem tN120 : IsFn Tryz.prog 120 := .mk (by kernel_rfl)
theorem tN121 : IsFn Tryz.prog 121 := .mk (by kernel_rfl)
theorem tN123 : IsFn Tryz.prog 123 := .mk (by kernel_rfl)
theorem tN124 : IsFn Tryz.prog 124 := .mk (by kernel_rfl)
theorem tN125 : IsFn Tryz.prog 125 := .mk (by kernel_rfl)
theorem tN126 : IsFn Tryz.prog 126 := .mk (by kernel_rfl)
theorem tN127 : IsFn Tryz.prog 127 := .mk (by kernel_rfl)
theorem tN128 : IsFn Tryz.prog 128 := .mk (by kernel_rfl)
theorem tN129 : IsFn Tryz.prog 129 := .mk (by kernel_rfl)
theorem tN130 : IsFn Tryz.prog 130 := .mk (by kernel_rfl)
theorem tN131 : IsFn Tryz.prog 131 := .mk (by kernel_rfl)
theorem tN132 : IsFn Tryz.prog 132 := .mk (by kernel_rfl)
theorem tN133 : IsFn Tryz.prog 133 := .mk (by kernel_rfl)
theorem tN134 : IsFn Tryz.prog 134 := .mk (by kernel_rfl)
theorem tN135 : IsFn Tryz.prog 135 := .mk (by kernel_rfl)
theorem tN136 : IsFn Tryz.prog 136 := .mk (by kernel_rfl)
theorem tN137 : IsFn Tryz.prog 137 := .mk (by kernel_rfl)
theorem tN139 : IsFn Tryz.prog 139 := .mk (by kernel_rfl)
theorem tN140 : IsFn Tryz.prog 140 := .mk (by kernel_rfl)
theorem tN141 : IsFn Tryz.prog 141 := .mk (by kernel_rfl)
theorem tN143 : IsFn Tryz.prog 143 := .mk (by kernel_rfl)
theorem tN145 : IsFn Tryz.prog 145 := .mk (by kernel_rfl)
theorem tN147 : IsFn Tryz.prog 147 := .mk (by kernel_rfl)
theorem tN149 : IsFn Tryz.prog 149 := .mk (by kernel_rfl)
theorem tN151 : IsFn Tryz.prog 151 := .mk (by kernel_rfl)
theorem tN18 : IsFn Tryz.prog 18 := .mk (by kernel_rfl)
theorem tN19 : IsFn Tryz.prog 19 := .mk (by kernel_rfl)
theorem tN199 : IsFn Tryz.prog 199 := .mk (by kernel_rfl)
theorem tN20 : IsFn Tryz.prog 20 := .mk (by kernel_rfl)
theorem tN200 : IsFn Tryz.prog 200 := .mk (by kernel_rfl)
theorem tN201 : IsFn Tryz.prog 201 := .mk (by kernel_rfl)
theorem tN202 : IsFn Tryz.prog 202 := .mk (by kernel_rfl)
theorem tN203 : IsFn Tryz.prog 203 := .mk (by kernel_rfl)
theorem tN205 : IsFn Tryz.prog 205 := .mk (by kernel_rfl)
theorem tN207 : IsFn Tryz.prog 207 := .mk (by kernel_rfl)
theorem tN209 : IsFn Tryz.prog 209 := .mk (by kernel_rfl)
theorem tN21 : IsFn Tryz.prog 21 := .mk (by kernel_rfl)
theorem tN210 : IsFn Tryz.prog 210 := .mk (by kernel_rfl)
theorem tN211 : IsFn Tryz.prog 211 := .mk (by kernel_rfl)
theorem tN212 : IsFn Tryz.prog 212 := .mk (by kernel_rfl)
theorem tN213 : IsFn Tryz.prog 213 := .mk (by kernel_rfl)
theorem tN214 : IsFn Tryz.prog 214 := .mk (by kernel_rfl)
theorem tN215 : IsFn Tryz.prog 215 := .mk (by kernel_rfl)
theorem tN216 : IsFn Tryz.prog 216 := .mk (by kernel_rfl)
theorem tN218 : IsFn Tryz.prog 218 := .mk (by kernel_rfl)
theorem tN22 : IsFn Tryz.prog 22 := .mk (by kernel_rfl)
theorem tN222 : IsFn Tryz.prog 222 := .mk (by kernel_rfl)
theorem tN224 : IsFn Tryz.prog 224 := .mk (by kernel_rfl)
theorem tN23 : IsFn Tryz.prog 23 := .mk (by kernel_rfl)
theorem tN231 : IsFn Tryz.prog 231 := .mk (by kernel_rfl)
theorem tN232 : IsFn Tryz.prog 232 := .mk (by kernel_rfl)
theorem tN233 : IsFn Tryz.prog 233 := .mk (by kernel_rfl)
theorem tN234 : IsFn Tryz.prog 234 := .mk (by kernel_rfl)
theorem tN235 : IsFn Tryz.prog 235 := .mk (by kernel_rfl)
theorem tN236 : IsFn Tryz.prog 236 := .mk (by kernel_rfl)
theorem tN237 : IsFn Tryz.prog 237 := .mk (by kernel_rfl)
theorem tN238 : IsFn Tryz.prog 238 := .mk (by kernel_rfl)
theorem tN239 : IsFn Tryz.prog 239 := .mk (by kernel_rfl)
theorem tN24 : IsFn Tryz.prog 24 := .mk (by kernel_rfl)
theorem tN240 : IsFn Tryz.prog 240 := .mk (by kernel_rfl)
theorem tN241 : IsFn Tryz.prog 241 := .mk (by kernel_rfl)
theorem tN243 : IsFn Tryz.prog 243 := .mk (by kernel_rfl)
theorem tN244 : IsFn Tryz.prog 244 := .mk (by kernel_rfl)
theorem tN245 : IsFn Tryz.prog 245 := .mk (by kernel_rfl)
theorem tN246 : IsFn Tryz.prog 246 := .mk (by kernel_rfl)
theorem tN247 : IsFn Tryz.prog 247 := .mk (by kernel_rfl)
theorem tN248 : IsFn Tryz.prog 248 := .mk (by kernel_rfl)
theorem tN249 : IsFn Tryz.prog 249 := .mk (by kernel_rfl)
theorem tN25 : IsFn Tryz.prog 25 := .mk (by kernel_rfl)
theorem tN254 : IsFn Tryz.prog 254 := .mk (by kernel_rfl)
theorem tN27 : IsFn Tryz.prog 27 := .mk (by kernel_rfl)
theorem tN28 : IsFn Tryz.prog 28 := .mk (by kernel_rfl)
theorem tN29 : IsFn Tryz.prog 29 := .mk (by kernel_rfl)
theorem tN30 : IsFn Tryz.prog 30 := .mk (by kernel_rfl)
theorem tN31 : IsFn Tryz.prog 31 := .mk (by kernel_rfl)
theorem tN32 : IsFn Tryz.prog 32 := .mk (by kernel_rfl)
theorem tN39 : IsFn Tryz.prog 39 := .mk (by kernel_rfl)
theorem tN7 : IsFn Tryz.prog 7 := .mk (by kernel_rfl)
theorem tN8 : IsFn Tryz.prog 8 := .mk (by kernel_rfl)
theorem tO121 : One Tryz.prog 121 := ⟨by kernel_rfl, .mk (by kernel_rfl)⟩
theorem tO123 : One Tryz.prog 123 := ⟨by kernel_rfl, .mk (by kernel_rfl)⟩
theorem tO157 : One Tryz.prog 157 := ⟨by kernel_rfl, .mk (by kernel_rfl)⟩
theorem tO24 : One Tryz.prog 24 := ⟨by kernel_rfl, .mk (by kernel_rfl)⟩
theorem tO3 : One Tryz.prog 3 := ⟨by kernel_rfl, .mk (by kernel_rfl)⟩
theorem tO38 : One Tryz.prog 38 := ⟨by kernel_rfl, .mk (by kernel_rfl)⟩
theorem tO4 : One Tryz.prog 4 := ⟨by kernel_rfl, .mk (by kernel_rfl)⟩
theorem tO44 : One Tryz.prog 44 := ⟨by kernel_rfl, .mk (by kernel_rfl)⟩
theorem tO45 : One Tryz.prog 45 := ⟨by kernel_rfl, .mk (by kernel_rfl)⟩
theorem tO5 : One Tryz.prog 5 := ⟨by kernel_rfl, .mk (by kernel_rfl)⟩
theorem tO67 : One Tryz.prog 67 := ⟨by kernel_rfl, .mk (by kernel_rfl)⟩
theorem tO81 : One Tryz.prog 81 := ⟨by kernel_rfl, .mk (by kernel_rfl)⟩
theorem tO9 : One Tryz.prog 9 := ⟨by kernel_rfl, .mk (by kernel_rfl)⟩
theorem tS268 : Sz Tryz.prog 268 2 := .mk (by kernel_rfl)
theorem tS38 : Sz Tryz.prog 38 1 := .mk (by kernel_rfl)
theorem tS4 : Sz Tryz.prog 4 1 := .mk (by kernel_rfl)
theorem tS44 : Sz Tryz.prog 44 1 := .mk (by kernel_rfl)
theorem tS5 : Sz Tryz.prog 5 1 := .mk (by kernel_rfl)
theorem tS66 : Sz Tryz.prog 66 2 := .mk (by kernel_rfl)
theorem tS67 : Sz Tryz.prog 67 1 := .mk (by kernel_rfl)
theorem tS9 : Sz Tryz.prog 9 1 := .mk (by kernel_rfl)
theorem tU137 : Tryz.prog.underlying 137 = some (.array 2 9) := by kernel_rfl
theorem tU160 : Tryz.prog.underlying 160 = some (.slice 5) := by kernel_rfl
theorem tU21 : Tryz.prog.underlying 21 = some (.int .i32) := by kernel_rfl
theorem tU227 : Tryz.prog.underlying 227 = some (.array 5 5) := by kernel_rfl
theorem tU238 : Tryz.prog.underlying 238 = some (.array 20 5) := by kernel_rfl
theorem tU239 : Tryz.prog.underlying 239 = some (.int .u64) := by kernel_rfl
theorem tU24 : Tryz.prog.underlying 24 = some (.slice 66) := by kernel_rfl
theorem tU253 : Tryz.prog.underlying 253 = some (.array 256 4) := by kernel_rfl
theorem tU265 : Tryz.prog.underlying 265 = some (.array 256 5) := by kernel_rfl
theorem tU269 : Tryz.prog.underlying 269 = some (.array 16 268) := by kernel_rfl
theorem tU3 : Tryz.prog.underlying 3 = some (.int .i64) := by kernel_rfl
theorem tU38 : Tryz.prog.underlying 38 = some (.slice 67) := by kernel_rfl
theorem tU4 : Tryz.prog.underlying 4 = some (.bool) := by kernel_rfl
theorem tU44 : Tryz.prog.underlying 44 = some (.slice 38) := by kernel_rfl
theorem tU45 : Tryz.prog.underlying 45 = some (.slice 44) := by kernel_rfl
theorem tU5 : Tryz.prog.underlying 5 = some (.int .u8) := by kernel_rfl
theorem tU67 : Tryz.prog.underlying 67 = some (.slice 9) := by kernel_rfl
theorem tU9 : Tryz.prog.underlying 9 = some (.string) := by kernel_rfl
theorem tZ121 : Zr Tryz.prog 121 (.nilFunc) := .mk (by kernel_rfl)
theorem tZ123 : Zr Tryz.prog 123 (.nilFunc) := .mk (by kernel_rfl)
theorem tZ137 : Zr Tryz.prog 137 (.agg (List.toArray [.string (mkS []), .string (mkS [])])) := .mk (by kernel_rfl)
theorem tZ157 : Zr Tryz.prog 157 (.nilFunc) := .mk (by kernel_rfl)
theorem tZ227 : Zr Tryz.prog 227 (.agg (List.toArray [.int .u8 0, .int .u8 0, .int .u8 0, .int .u8 0, .int .u8 0])) := .mk (by kernel_rfl)
theorem tZ23 : Zr Tryz.prog 23 (.agg (List.toArray [.int .u8 0, .int .u8 0, .int .u8 0, .int .u8 0, .int .u8 0])) := .mk (by kernel_rfl)
theorem tZ238 : Zr Tryz.prog 238 (.agg (List.toArray [.int .u8 0, .int .u8 0, .int .u8 0, .int .u8 0, .int .u8 0, .int .u8 0, .int .u8 0, .int .u8 0, .int .u8 0, .int .u8 0, .int .u8 0, .int .u8 0, .int .u8 0, .int .u8 0, .int .u8 0, .int .u8 0, .int .u8 0, .int .u8 0, .int .u8 0, .int .u8 0])) := .mk (by kernel_rfl)
theorem tZ240 : Zr Tryz.prog 240 (.agg (List.toArray [])) := .mk (by kernel_rfl)
theorem tZ253 : Zr Tryz.prog 253 (.agg (List.toArray (List.replicate 256 (.bool false)))) := .mk (by kernel_rfl)
theorem tZ26 : Zr Tryz.prog 26 (.agg (List.toArray [.int .u8 0, .int .u8 0, .int .u8 0, .int .u8 0, .int .u8 0, .slice none 0 0])) := .mk (by kernel_rfl)
theorem tZ268 : Zr Tryz.prog 268 (.agg (List.toArray [.int .u8 0, .int .u8 0])) := .mk (by kernel_rfl)
theorem tZ28 : Zr Tryz.prog 28 (.agg (List.toArray [.string (mkS []), .int .i64 0, .int .i64 0, .int .i64 0, .int .i64 0, .int .i64 0])) := .mk (by kernel_rfl)
theorem tZ66 : Zr Tryz.prog 66 (.agg (List.toArray [.string (mkS []), .slice none 0 0])) := .mk (by kernel_rfl)
theorem tZ81 : Zr Tryz.prog 81 (.nilFunc) := .mk (by kernel_rfl)
theorem tZ9 : Zr Tryz.prog 9 (.string (mkS [])) := .mk (by kernel_rfl)
theorem tB0 : ∀ (y0 : Str) (y1 : Int) (y2 : Int) (y3 : Int) (y4 : Int) (y5 : Int) (y6 : Str) (y7 : Int) (y8 : Int) (y9 : Int) (y10 : Int) (y11 : Int), eqV Tryz.prog 4 28 (.agg (List.toArray [.string (mkS y0), .int .i64 y1, .int .i64 y2, .int .i64 y3, .int .i64 y4, .int .i64 y5])) (.agg (List.toArray [.string (mkS y6), .int .i64 y7, .int .i64 y8, .int .i64 y9, .int .i64 y10, .int .i64 y11])) = some ((y0 == y6) && ((y1 == y7) && ((y2 == y8) && ((y3 == y9) && ((y4 == y10) && ((y5 == y11) && true)))))) := by intros; kernel_rfl
theorem tB1 : Tryz.prog.eqGuardType Tryz.prog.depth 28 = false := by intros; kernel_rfl
theorem tB2 : ∀  (w : World), (Instr.build 26 (List.toArray [])).run Tryz.prog w = .ok (.agg (List.toArray [.int .u8 0, .int .u8 0, .int .u8 0, .int .u8 0, .int .u8 0, .slice none 0 0])) w := by intros; kernel_rfl
theorem tB3 : ∀ (y0 : Int) (y1 : Int) (y2 : Int) (y3 : Int) (y4 : Int) (y5 : Sl) (w : World), (Instr.build 26 (List.toArray [(0, .agg (List.toArray [.int .u8 y0, .int .u8 y1, .int .u8 y2, .int .u8 y3, .int .u8 y4])), (1, .slice y5.base y5.len y5.cap)])).run Tryz.prog w = .ok (.agg (List.toArray [.int .u8 y0, .int .u8 y1, .int .u8 y2, .int .u8 y3, .int .u8 y4, .slice y5.base y5.len y5.cap])) w := by intros; kernel_rfl
theorem tB4 : ∀ (y0 : Str) (w : World), (Instr.build 66 (List.toArray [(0, .string (mkS y0))])).run Tryz.prog w = .ok (.agg (List.toArray [.string (mkS y0), .slice none 0 0])) w := by intros; kernel_rfl
theorem tB5 : ∀ (y0 : Str) (y1a : Option Addr) (y1b : Nat) (y1c : Nat) (w : World), (Instr.buildSlice 24 1 (List.toArray [(0, .agg (List.toArray [.string (mkS y0), .slice y1a y1b y1c]))])).run Tryz.prog w = .ok (.slice (some ⟨w.heap.size, 0, none⟩) 1 1) (w.alloc (.cells (List.toArray [.string (mkS y0), .slice y1a y1b y1c]) 66)) := by intros; kernel_rfl
theorem tB6 : ∀ (y0 : Int) (y1 : Int) (y2 : Int) (y3 : Int) (y4 : Int) (y5 : Int) (y6 : Int) (y7 : Int) (y8 : Int) (y9 : Int), eqV Tryz.prog 4 23 (.agg (List.toArray [.int .u8 y0, .int .u8 y1, .int .u8 y2, .int .u8 y3, .int .u8 y4])) (.agg (List.toArray [.int .u8 y5, .int .u8 y6, .int .u8 y7, .int .u8 y8, .int .u8 y9])) = some ((y0 == y5) && ((y1 == y6) && ((y2 == y7) && ((y3 == y8) && ((y4 == y9) && true))))) := by intros; kernel_rfl
theorem tB7 : Tryz.prog.eqGuardType Tryz.prog.depth 23 = false := by intros; kernel_rfl
theorem tB8 : ∀ (y0 : Str) (w : World), (Instr.build 28 (List.toArray [(0, .string (mkS y0))])).run Tryz.prog w = .ok (.agg (List.toArray [.string (mkS y0), .int .i64 0, .int .i64 0, .int .i64 0, .int .i64 0, .int .i64 0])) w := by intros; kernel_rfl
theorem tB9 : ∀ (y0 : Str) (w : World), (Instr.build 144 (List.toArray [(0, .string (mkS y0))])).run Tryz.prog w = .ok (.agg (List.toArray [.string (mkS y0), .bool false])) w := by intros; kernel_rfl
theorem tB10 : ∀  (w : World), (Instr.build 28 (List.toArray [])).run Tryz.prog w = .ok (.agg (List.toArray [.string (mkS []), .int .i64 0, .int .i64 0, .int .i64 0, .int .i64 0, .int .i64 0])) w := by intros; kernel_rfl
theorem tB11 : ∀ (y0 : Str) (y1 : Int) (w : World), (Instr.build 28 (List.toArray [(0, .string (mkS y0)), (1, .int .i64 y1)])).run Tryz.prog w = .ok (.agg (List.toArray [.string (mkS y0), .int .i64 y1, .int .i64 0, .int .i64 0, .int .i64 0, .int .i64 0])) w := by intros; kernel_rfl
theorem tB12 : ∀  (w : World), (Instr.buildSlice 24 0 (List.toArray [])).run Tryz.prog w = .ok (.slice (some ⟨w.heap.size, 0, none⟩) 0 0) (w.alloc (.cells (List.toArray []) 66)) := by intros; kernel_rfl
theorem tB13 : ∀ (y0 : Int) (y1 : Int) (y2 : Int) (y3 : Int) (y4 : Int) (w : World), (Instr.build 26 (List.toArray [(0, .agg (List.toArray [.int .u8 y0, .int .u8 y1, .int .u8 y2, .int .u8 y3, .int .u8 y4]))])).run Tryz.prog w = .ok (.agg (List.toArray [.int .u8 y0, .int .u8 y1, .int .u8 y2, .int .u8 y3, .int .u8 y4, .slice none 0 0])) w := by intros; kernel_rfl
theorem tB14 : ∀ (y0 : Str) (y1 : Sl) (w : World), (Instr.build 66 (List.toArray [(0, .string (mkS y0)), (1, .slice y1.base y1.len y1.cap)])).run Tryz.prog w = .ok (.agg (List.toArray [.string (mkS y0), .slice y1.base y1.len y1.cap])) w := by intros; kernel_rfl
theorem tB15 : ∀ (y0 : Str) (y1 : Sl) (w : World), (Instr.buildSlice 24 1 (List.toArray [(0, .agg (List.toArray [.string (mkS y0), .slice y1.base y1.len y1.cap]))])).run Tryz.prog w = .ok (.slice (some ⟨w.heap.size, 0, none⟩) 1 1) (w.alloc (.cells (List.toArray [.string (mkS y0), .slice y1.base y1.len y1.cap]) 66)) := by intros; kernel_rfl
theorem tB16 : ∀ (y0 : Str) (y1 : Str) (w : World), (Instr.build 137 (List.toArray [(0, .string (mkS y0)), (1, .string (mkS y1))])).run Tryz.prog w = .ok (.agg (List.toArray [.string (mkS y0), .string (mkS y1)])) w := by intros; kernel_rfl
theorem tB17 : ∀ (y0 : Int) (y1 : Int) (y2 : Int) (y3 : Int) (w : World), (Instr.buildSlice 160 4 (List.toArray [(0, .int .u8 y0), (1, .int .u8 y1), (2, .int .u8 y2), (3, .int .u8 y3)])).run Tryz.prog w = .ok (.slice (some ⟨w.heap.size, 0, none⟩) 4 4) (w.alloc (.cells (List.toArray [.int .u8 y0, .int .u8 y1, .int .u8 y2, .int .u8 y3]) 5)) := by intros; kernel_rfl
theorem tB18 : ∀ (y0 : Int) (w : World), (Instr.buildSlice 160 1 (List.toArray [(0, .int .u8 y0)])).run Tryz.prog w = .ok (.slice (some ⟨w.heap.size, 0, none⟩) 1 1) (w.alloc (.cells (List.toArray [.int .u8 y0]) 5)) := by intros; kernel_rfl
theorem tB19 : ∀ (y0 : Str) (y1 : Int) (w : World), (Instr.build 28 (List.toArray [(0, .string (mkS y0)), (2, .int .i64 y1)])).run Tryz.prog w = .ok (.agg (List.toArray [.string (mkS y0), .int .i64 0, .int .i64 y1, .int .i64 0, .int .i64 0, .int .i64 0])) w := by intros; kernel_rfl
theorem tB20 : ∀ (y0a : Option Addr) (y0b : Nat) (y0c : Nat) (w : World), (Instr.buildSlice 45 1 (List.toArray [(0, .slice y0a y0b y0c)])).run Tryz.prog w = .ok (.slice (some ⟨w.heap.size, 0, none⟩) 1 1) (w.alloc (.cells (List.toArray [.slice y0a y0b y0c]) 44)) := by intros; kernel_rfl
theorem tB21 : ∀ (y0a : Option Addr) (y0b : Nat) (y0c : Nat) (w : World), (Instr.buildSlice 44 1 (List.toArray [(0, .slice y0a y0b y0c)])).run Tryz.prog w = .ok (.slice (some ⟨w.heap.size, 0, none⟩) 1 1) (w.alloc (.cells (List.toArray [.slice y0a y0b y0c]) 38)) := by intros; kernel_rfl
theorem tB22 : ∀ (y0a : Option Addr) (y0b : Nat) (y0c : Nat) (w : World), (Instr.buildSlice 38 1 (List.toArray [(0, .slice y0a y0b y0c)])).run Tryz.prog w = .ok (.slice (some ⟨w.heap.size, 0, none⟩) 1 1) (w.alloc (.cells (List.toArray [.slice y0a y0b y0c]) 67)) := by intros; kernel_rfl
theorem tB23 : ∀ (y0 : Str) (w : World), (Instr.buildSlice 67 1 (List.toArray [(0, .string (mkS y0))])).run Tryz.prog w = .ok (.slice (some ⟨w.heap.size, 0, none⟩) 1 1) (w.alloc (.cells (List.toArray [.string (mkS y0)]) 9)) := by intros; kernel_rfl
theorem tB24 : ∀ (y0 : Sl) (w : World), (Instr.buildSlice 45 1 (List.toArray [(0, .slice y0.base y0.len y0.cap)])).run Tryz.prog w = .ok (.slice (some ⟨w.heap.size, 0, none⟩) 1 1) (w.alloc (.cells (List.toArray [.slice y0.base y0.len y0.cap]) 44)) := by intros; kernel_rfl
theorem tB25 : ∀ (y0 : Int) (y1 : Int) (y2 : Int) (y3 : Int) (y4 : Int) (w : World), (Instr.build 23 (List.toArray [(0, .int .u8 y0), (1, .int .u8 y1), (2, .int .u8 y2), (3, .int .u8 y3), (4, .int .u8 y4)])).run Tryz.prog w = .ok (.agg (List.toArray [.int .u8 y0, .int .u8 y1, .int .u8 y2, .int .u8 y3, .int .u8 y4])) w := by intros; kernel_rfl
theorem tB26 : ∀ (y0 : Int) (y1 : Int) (y2 : Int) (y3 : Int) (y4 : Int) (w : World), (Instr.build 227 (List.toArray [(0, .int .u8 y0), (1, .int .u8 y1), (2, .int .u8 y2), (3, .int .u8 y3), (4, .int .u8 y4)])).run Tryz.prog w = .ok (.agg (List.toArray [.int .u8 y0, .int .u8 y1, .int .u8 y2, .int .u8 y3, .int .u8 y4])) w := by intros; kernel_rfl
theorem tB27 : ∀  (w : World), (Instr.build 240 (List.toArray [])).run Tryz.prog w = .ok (.agg (List.toArray [])) w := by intros; kernel_rfl
theorem tB28 : ∀  (w : World), (Instr.buildSlice 45 0 (List.toArray [])).run Tryz.prog w = .ok (.slice (some ⟨w.heap.size, 0, none⟩) 0 0) (w.alloc (.cells (List.toArray []) 44)) := by intros; kernel_rfl
theorem tB29 : ∀  (w : World), (Instr.buildSlice 44 0 (List.toArray [])).run Tryz.prog w = .ok (.slice (some ⟨w.heap.size, 0, none⟩) 0 0) (w.alloc (.cells (List.toArray []) 38)) := by intros; kernel_rfl
theorem tB30 : ∀  (w : World), (Instr.buildSlice 38 0 (List.toArray [])).run Tryz.prog w = .ok (.slice (some ⟨w.heap.size, 0, none⟩) 0 0) (w.alloc (.cells (List.toArray []) 67)) := by intros; kernel_rfl
theorem tB31 : ∀  (w : World), (Instr.buildSlice 67 0 (List.toArray [])).run Tryz.prog w = .ok (.slice (some ⟨w.heap.size, 0, none⟩) 0 0) (w.alloc (.cells (List.toArray []) 9)) := by intros; kernel_rfl
theorem tB32 : ∀ (y0 : Sl) (w : World), (Instr.buildSlice 38 1 (List.toArray [(0, .slice y0.base y0.len y0.cap)])).run Tryz.prog w = .ok (.slice (some ⟨w.heap.size, 0, none⟩) 1 1) (w.alloc (.cells (List.toArray [.slice y0.base y0.len y0.cap]) 67)) := by intros; kernel_rfl
theorem tB33 : ∀ (y0 : Sl) (w : World), (Instr.buildSlice 44 1 (List.toArray [(0, .slice y0.base y0.len y0.cap)])).run Tryz.prog w = .ok (.slice (some ⟨w.heap.size, 0, none⟩) 1 1) (w.alloc (.cells (List.toArray [.slice y0.base y0.len y0.cap]) 38)) := by intros; kernel_rfl
end Go.Proofs.YtgnddjnnkghedaaGreatDoor
