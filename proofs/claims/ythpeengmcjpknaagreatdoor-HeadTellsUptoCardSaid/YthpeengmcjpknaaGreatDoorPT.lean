/- Facts on the types and functions of the program. -/
import Derived.Test.YthpeengmcjpknaaGreatDoorRows
import Derived.Test.YthpeengmcjpknaaGreatDoorPVQ
namespace Go.Proofs.YthpeengmcjpknaaGreatDoor
open Go.V
theorem tA189 : Agg Tryz.prog 189 7 := ⟨by kernel_rfl, .mk (by kernel_rfl)⟩
theorem tA206 : Agg Tryz.prog 206 4 := ⟨by kernel_rfl, .mk (by kernel_rfl)⟩
theorem tA23 : Agg Tryz.prog 23 5 := ⟨by kernel_rfl, .mk (by kernel_rfl)⟩
theorem tA26 : Agg Tryz.prog 26 6 := ⟨by kernel_rfl, .mk (by kernel_rfl)⟩
theorem tA28 : Agg Tryz.prog 28 6 := ⟨by kernel_rfl, .mk (by kernel_rfl)⟩
theorem tA286 : Agg Tryz.prog 286 5 := ⟨by kernel_rfl, .mk (by kernel_rfl)⟩
theorem tA304 : Agg Tryz.prog 304 0 := ⟨by kernel_rfl, .mk (by kernel_rfl)⟩
theorem tA313 : Agg Tryz.prog 313 256 := ⟨by kernel_rfl, .mk (by kernel_rfl)⟩
theorem tA68 : Agg Tryz.prog 68 2 := ⟨by kernel_rfl, .mk (by kernel_rfl)⟩
theorem tA79 : Agg Tryz.prog 79 2 := ⟨by kernel_rfl, .mk (by kernel_rfl)⟩
theorem tF164_1 : Fld Tryz.prog 164 1 1 141 0 := ⟨by kernel_rfl, .mk (by kernel_rfl)⟩
theorem tF189_0 : Fld Tryz.prog 189 0 0 28 5 := ⟨by kernel_rfl, .mk (by kernel_rfl)⟩
theorem tF189_1 : Fld Tryz.prog 189 1 6 9 0 := ⟨by kernel_rfl, .mk (by kernel_rfl)⟩
theorem tF23_0 : Fld Tryz.prog 23 0 0 5 0 := ⟨by kernel_rfl, .mk (by kernel_rfl)⟩
theorem tF23_1 : Fld Tryz.prog 23 1 1 5 0 := ⟨by kernel_rfl, .mk (by kernel_rfl)⟩
theorem tF23_2 : Fld Tryz.prog 23 2 2 5 0 := ⟨by kernel_rfl, .mk (by kernel_rfl)⟩
theorem tF23_3 : Fld Tryz.prog 23 3 3 5 0 := ⟨by kernel_rfl, .mk (by kernel_rfl)⟩
theorem tF23_4 : Fld Tryz.prog 23 4 4 5 0 := ⟨by kernel_rfl, .mk (by kernel_rfl)⟩
theorem tF26_0 : Fld Tryz.prog 26 0 0 23 4 := ⟨by kernel_rfl, .mk (by kernel_rfl)⟩
theorem tF26_1 : Fld Tryz.prog 26 1 5 24 0 := ⟨by kernel_rfl, .mk (by kernel_rfl)⟩
theorem tF28_0 : Fld Tryz.prog 28 0 0 9 0 := ⟨by kernel_rfl, .mk (by kernel_rfl)⟩
theorem tF28_1 : Fld Tryz.prog 28 1 1 3 0 := ⟨by kernel_rfl, .mk (by kernel_rfl)⟩
theorem tF28_2 : Fld Tryz.prog 28 2 2 3 0 := ⟨by kernel_rfl, .mk (by kernel_rfl)⟩
theorem tF28_3 : Fld Tryz.prog 28 3 3 3 0 := ⟨by kernel_rfl, .mk (by kernel_rfl)⟩
theorem tF28_4 : Fld Tryz.prog 28 4 4 3 0 := ⟨by kernel_rfl, .mk (by kernel_rfl)⟩
theorem tF28_5 : Fld Tryz.prog 28 5 5 3 0 := ⟨by kernel_rfl, .mk (by kernel_rfl)⟩
theorem tF79_0 : Fld Tryz.prog 79 0 0 9 0 := ⟨by kernel_rfl, .mk (by kernel_rfl)⟩
theorem tF79_1 : Fld Tryz.prog 79 1 1 45 0 := ⟨by kernel_rfl, .mk (by kernel_rfl)⟩
theorem tN11 : IsFn Tryz.prog 11 := .mk (by kernel_rfl)
theorem tN12 : IsFn Tryz.prog 12 := .mk (by kernel_rfl)
theorem tN143 : IsFn Tryz.prog 143 := .mk (by kernel_rfl)
theorem tN146 : IsFn Tryz.prog 146 := .mk (by kernel_rfl)
theorem tN148 : IsFn Tryz.prog 148 := .mk (by kernel_rfl)
theorem tN149 : IsFn Tryz.prog 149 := .mk (by kernel_rfl)
theorem tN151 : IsFn Tryz.prog 151 := .mk (by kernel_rfl)
theorem tN152 : IsFn Tryz.prog 152 := .mk (by kernel_rfl)
theorem tN154 : IsFn Tryz.prog 154 := .mk (by kernel_rfl)
theorem tN156 : IsFn Tryz.prog 156 := .mk (by kernel_rfl)
theorem tN158 : IsFn Tryz.prog 158 := .mk (by kernel_rfl)
theorem tN159 : IsFn Tryz.prog 159 := .mk (by kernel_rfl)
theorem tN16 : IsFn Tryz.prog 16 := .mk (by kernel_rfl)
theorem tN160 : IsFn Tryz.prog 160 := .mk (by kernel_rfl)
theorem tN161 : IsFn Tryz.prog 161 := .mk (by kernel_rfl)
theorem tN162 : IsFn Tryz.prog 162 := .mk (by kernel_rfl)
theorem tN164 : IsFn Tryz.prog 164 := .mk (by kernel_rfl)
theorem tN166 : IsFn Tryz.prog 166 := .mk (by kernel_rfl)
theorem tN168 : IsFn Tryz.prog 168 := .mk (by kernel_rfl)
theorem tN169 : IsFn Tryz.prog 169 := .mk (by kernel_rfl)
theorem tN17 : IsFn Tryz.prog 17 := .mk (by kernel_rfl)
theorem tN170 : IsFn Tryz.prog 170 := .mk (by kernel_rfl)
theorem tN171 : IsFn Tryz.prog 171 := .mk (by kernel_rfl)
theorem tN172 : IsFn Tryz.prog 172 := .mk (by kernel_rfl)
theorem tN173 : IsFn Tryz.prog 173 := .mk (by kernel_rfl)
theorem tN174 : IsFn Tryz.prog 174 := .mk (by kernel_rfl)
theorem tN175 : IsFn Tryz.prog 175 := .mk (by kernel_rfl)
theorem tN178 : IsFn Tryz.prog 178 := .mk (by kernel_rfl)
theorem tN181 : IsFn Tryz.prog 181 := .mk (by kernel_rfl)
theorem tN182 : IsFn Tryz.prog 182 := .mk (by kernel_rfl)
theorem tN183 : IsFn Tryz.prog 183 := .mk (by kernel_rfl)
theorem tN184 : IsFn Tryz.prog 184 := .mk (by kernel_rfl)
theorem tN185 : IsFn Tryz.prog 185 := .mk (by kernel_rfl)
theorem tN186 : IsFn Tryz.prog 186 := .mk (by kernel_rfl)
theorem tN197 : IsFn Tryz.prog 197 := .mk (by kernel_rfl)
theorem tN198 : IsFn Tryz.prog 198 := .mk (by kernel_rfl)
theorem tN199 : IsFn Tryz.prog 199 := .mk (by kernel_rfl)
theorem tN200 : IsFn Tryz.prog 200 := .mk (by kernel_rfl)
theorem tN211 : IsFn Tryz.prog 211 := .mk (by kernel_rfl)
theorem tN212 : IsFn Tryz.prog 212 := .mk (by kernel_rfl)
theorem tN213 : IsFn Tryz.prog 213 := .mk (by kernel_rfl)
theorem tN214 : IsFn Tryz.prog 214 := .mk (by kernel_rfl)
theorem tN215 : IsFn Tryz.prog 215 := .mk (by kernel_rfl)
theorem tN217 : IsFn Tryz.prog 217 := .mk (by kernel_rfl)
theorem tN219 : IsFn Tryz.prog 219 := .mk (by kernel_rfl)
theorem tN22 : IsFn Tryz.prog 22 := .mk (by kernel_rfl)
theorem tN221 : IsFn Tryz.prog 221 := .mk (by kernel_rfl)
theorem tN223 : IsFn Tryz.prog 223 := .mk (by kernel_rfl)
theorem tN225 : IsFn Tryz.prog 225 := .mk (by kernel_rfl)
theorem tN226 : IsFn Tryz.prog 226 := .mk (by kernel_rfl)
theorem tN227 : IsFn Tryz.prog 227 := .mk (by kernel_rfl)
theorem tN228 : IsFn Tryz.prog 228 := .mk (by kernel_rfl)
theorem tN229 : IsFn Tryz.prog 229 := .mk (by kernel_rfl)
theorem tN23 : IsFn Tryz.prog 23 := .mk (by kernel_rfl)
theorem tN25 : IsFn Tryz.prog 25 := .mk (by kernel_rfl)
theorem tN27 : IsFn Tryz.prog 27 := .mk (by kernel_rfl)
theorem tN270 : IsFn Tryz.prog 270 := .mk (by kernel_rfl)
theorem tN271 : IsFn Tryz.prog 271 := .mk (by kernel_rfl)
theorem tN272 : IsFn Tryz.prog 272 := .mk (by kernel_rfl)
theorem tN273 : IsFn Tryz.prog 273 := .mk (by kernel_rfl)
theorem tN275 : IsFn Tryz.prog 275 := .mk (by kernel_rfl)
theorem tN276 : IsFn Tryz.prog 276 := .mk (by kernel_rfl)
theorem tN277 : IsFn Tryz.prog 277 := .mk (by kernel_rfl)
theorem tN28 : IsFn Tryz.prog 28 := .mk (by kernel_rfl)
theorem tN280 : IsFn Tryz.prog 280 := .mk (by kernel_rfl)
theorem tN284 : IsFn Tryz.prog 284 := .mk (by kernel_rfl)
theorem tN286 : IsFn Tryz.prog 286 := .mk (by kernel_rfl)
theorem tN288 : IsFn Tryz.prog 288 := .mk (by kernel_rfl)
theorem tN289 : IsFn Tryz.prog 289 := .mk (by kernel_rfl)
theorem tN291 : IsFn Tryz.prog 291 := .mk (by kernel_rfl)
theorem tN293 : IsFn Tryz.prog 293 := .mk (by kernel_rfl)
theorem tN295 : IsFn Tryz.prog 295 := .mk (by kernel_rfl)
theorem tN297 : IsFn Tryz.prog 297 := .mk (by kernel_rfl)
theorem tN300 : IsFn Tryz.prog 300 := .mk (by kernel_rfl)
theorem tN302 : IsFn Tryz.prog 302 := .mk (by kernel_rfl)
theorem tN303 : IsFn Tryz.prog 303 := .mk (by kernel_rfl)
theorem tN304 : IsFn Tryz.prog 304 := .mk (by kernel_rfl)
theorem tN305 : IsFn Tryz.prog 305 := .mk (by kernel_rfl)
theorem tN31 : IsFn Tryz.prog 31 := .mk (by kernel_rfl)
theorem tN310 : IsFn Tryz.prog 310 := .mk (by kernel_rfl)
theorem tN311 : IsFn Tryz.prog 311 := .mk (by kernel_rfl)
theorem tN312 : IsFn Tryz.prog 312 := .mk (by kernel_rfl)
theorem tN313 : IsFn Tryz.prog 313 := .mk (by kernel_rfl)
theorem tN314 : IsFn Tryz.prog 314 := .mk (by kernel_rfl)
theorem tN315 : IsFn Tryz.prog 315 := .mk (by kernel_rfl)
theorem tN316 : IsFn Tryz.prog 316 := .mk (by kernel_rfl)
theorem tN318 : IsFn Tryz.prog 318 := .mk (by kernel_rfl)
theorem tN319 : IsFn Tryz.prog 319 := .mk (by kernel_rfl)
theorem tN32 : IsFn Tryz.prog 32 := .mk (by kernel_rfl)
theorem tN324 : IsFn Tryz.prog 324 := .mk (by kernel_rfl)
theorem tN325 : IsFn Tryz.prog 325 := .mk (by kernel_rfl)
theorem tN326 : IsFn Tryz.prog 326 := .mk (by kernel_rfl)
theorem tN329 : IsFn Tryz.prog 329 := .mk (by kernel_rfl)
theorem tN33 : IsFn Tryz.prog 33 := .mk (by kernel_rfl)
theorem tN331 : IsFn Tryz.prog 331 := .mk (by kernel_rfl)
theorem tN336 : IsFn Tryz.prog 336 := .mk (by kernel_rfl)
theorem tN34 : IsFn Tryz.prog 34 := .mk (by kernel_rfl)
theorem tN35 : IsFn Tryz.prog 35 := .mk (by kernel_rfl)
theorem tN36 : IsFn Tryz.prog 36 := .mk (by kernel_rfl)
theorem tN37 : IsFn Tryz.prog 37 := .mk (by kernel_rfl)
theorem tN38 : IsFn Tryz.prog 38 := .mk (by kernel_rfl)
theorem tN39 : IsFn Tryz.prog 39 := .mk (by kernel_rfl)
theorem tN41 : IsFn Tryz.prog 41 := .mk (by kernel_rfl)
theorem tN52 : IsFn Tryz.prog 52 := .mk (by kernel_rfl)
theorem tN53 : IsFn Tryz.prog 53 := .mk (by kernel_rfl)
theorem tN54 : IsFn Tryz.prog 54 := .mk (by kernel_rfl)
theorem tN55 : IsFn Tryz.prog 55 := .mk (by kernel_rfl)
theorem tN56 : IsFn Tryz.prog 56 := .mk (by kernel_rfl)
theorem tN57 : IsFn Tryz.prog 57 := .mk (by kernel_rfl)
theorem tN58 : IsFn Tryz.prog 58 := .mk (by kernel_rfl)
theorem tN59 : IsFn Tryz.prog 59 := .mk (by kernel_rfl)
theorem tN61 : IsFn Tryz.prog 61 := .mk (by kernel_rfl)
theorem tN63 : IsFn Tryz.prog 63 := .mk (by kernel_rfl)
theorem tN65 : IsFn Tryz.prog 65 := .mk (by kernel_rfl)
theorem tN66 : IsFn Tryz.prog 66 := .mk (by kernel_rfl)
theorem tN67 : IsFn Tryz.prog 67 := .mk (by kernel_rfl)
theorem tN9 : IsFn Tryz.prog 9 := .mk (by kernel_rfl)
theorem tO138 : One Tryz.prog 138 := ⟨by kernel_rfl, .mk (by kernel_rfl)⟩
theorem tO141 : One Tryz.prog 141 := ⟨by kernel_rfl, .mk (by kernel_rfl)⟩
theorem tO157 : One Tryz.prog 157 := ⟨by kernel_rfl, .mk (by kernel_rfl)⟩
theorem tO159 : One Tryz.prog 159 := ⟨by kernel_rfl, .mk (by kernel_rfl)⟩
theorem tO174 : One Tryz.prog 174 := ⟨by kernel_rfl, .mk (by kernel_rfl)⟩
theorem tO24 : One Tryz.prog 24 := ⟨by kernel_rfl, .mk (by kernel_rfl)⟩
theorem tO3 : One Tryz.prog 3 := ⟨by kernel_rfl, .mk (by kernel_rfl)⟩
theorem tO38 : One Tryz.prog 38 := ⟨by kernel_rfl, .mk (by kernel_rfl)⟩
theorem tO4 : One Tryz.prog 4 := ⟨by kernel_rfl, .mk (by kernel_rfl)⟩
theorem tO44 : One Tryz.prog 44 := ⟨by kernel_rfl, .mk (by kernel_rfl)⟩
theorem tO45 : One Tryz.prog 45 := ⟨by kernel_rfl, .mk (by kernel_rfl)⟩
theorem tO5 : One Tryz.prog 5 := ⟨by kernel_rfl, .mk (by kernel_rfl)⟩
theorem tO80 : One Tryz.prog 80 := ⟨by kernel_rfl, .mk (by kernel_rfl)⟩
theorem tO9 : One Tryz.prog 9 := ⟨by kernel_rfl, .mk (by kernel_rfl)⟩
theorem tS189 : Sz Tryz.prog 189 7 := .mk (by kernel_rfl)
theorem tS3 : Sz Tryz.prog 3 1 := .mk (by kernel_rfl)
theorem tS38 : Sz Tryz.prog 38 1 := .mk (by kernel_rfl)
theorem tS4 : Sz Tryz.prog 4 1 := .mk (by kernel_rfl)
theorem tS44 : Sz Tryz.prog 44 1 := .mk (by kernel_rfl)
theorem tS5 : Sz Tryz.prog 5 1 := .mk (by kernel_rfl)
theorem tS79 : Sz Tryz.prog 79 2 := .mk (by kernel_rfl)
theorem tS80 : Sz Tryz.prog 80 1 := .mk (by kernel_rfl)
theorem tS9 : Sz Tryz.prog 9 1 := .mk (by kernel_rfl)
theorem tU141 : Tryz.prog.underlying 141 = some (.slice 5) := by kernel_rfl
theorem tU190 : Tryz.prog.underlying 190 = some (.slice 189) := by kernel_rfl
theorem tU206 : Tryz.prog.underlying 206 = some (.array 4 3) := by kernel_rfl
theorem tU24 : Tryz.prog.underlying 24 = some (.slice 79) := by kernel_rfl
theorem tU286 : Tryz.prog.underlying 286 = some (.array 5 5) := by kernel_rfl
theorem tU3 : Tryz.prog.underlying 3 = some (.int .i64) := by kernel_rfl
theorem tU313 : Tryz.prog.underlying 313 = some (.array 256 4) := by kernel_rfl
theorem tU38 : Tryz.prog.underlying 38 = some (.slice 80) := by kernel_rfl
theorem tU4 : Tryz.prog.underlying 4 = some (.bool) := by kernel_rfl
theorem tU44 : Tryz.prog.underlying 44 = some (.slice 38) := by kernel_rfl
theorem tU45 : Tryz.prog.underlying 45 = some (.slice 44) := by kernel_rfl
theorem tU5 : Tryz.prog.underlying 5 = some (.int .u8) := by kernel_rfl
theorem tU68 : Tryz.prog.underlying 68 = some (.array 2 9) := by kernel_rfl
theorem tU80 : Tryz.prog.underlying 80 = some (.slice 9) := by kernel_rfl
theorem tU9 : Tryz.prog.underlying 9 = some (.string) := by kernel_rfl
theorem tZ138 : Zr Tryz.prog 138 (.nilFunc) := .mk (by kernel_rfl)
theorem tZ157 : Zr Tryz.prog 157 (.nilFunc) := .mk (by kernel_rfl)
theorem tZ159 : Zr Tryz.prog 159 (.nilFunc) := .mk (by kernel_rfl)
theorem tZ164 : Zr Tryz.prog 164 (.agg (List.toArray [.pointer none, .slice none 0 0])) := .mk (by kernel_rfl)
theorem tZ174 : Zr Tryz.prog 174 (.nilFunc) := .mk (by kernel_rfl)
theorem tZ189 : Zr Tryz.prog 189 (.agg (List.toArray [tx [], nI 0, nI 0, nI 0, nI 0, nI 0, tx []])) := .mk (by kernel_rfl)
theorem tZ206 : Zr Tryz.prog 206 (.agg (List.toArray [nI 0, nI 0, nI 0, nI 0])) := .mk (by kernel_rfl)
theorem tZ23 : Zr Tryz.prog 23 (.agg (List.toArray [.int .u8 0, .int .u8 0, .int .u8 0, .int .u8 0, .int .u8 0])) := .mk (by kernel_rfl)
theorem tZ26 : Zr Tryz.prog 26 (.agg (List.toArray [.int .u8 0, .int .u8 0, .int .u8 0, .int .u8 0, .int .u8 0, .slice none 0 0])) := .mk (by kernel_rfl)
theorem tZ28 : Zr Tryz.prog 28 (.agg (List.toArray [tx [], nI 0, nI 0, nI 0, nI 0, nI 0])) := .mk (by kernel_rfl)
theorem tZ286 : Zr Tryz.prog 286 (.agg (List.toArray [.int .u8 0, .int .u8 0, .int .u8 0, .int .u8 0, .int .u8 0])) := .mk (by kernel_rfl)
theorem tZ304 : Zr Tryz.prog 304 (.agg (List.toArray [])) := .mk (by kernel_rfl)
theorem tZ313 : Zr Tryz.prog 313 (.agg (List.toArray (List.replicate 256 (.bool false)))) := .mk (by kernel_rfl)
theorem tZ4 : Zr Tryz.prog 4 (.bool false) := .mk (by kernel_rfl)
theorem tZ68 : Zr Tryz.prog 68 (.agg (List.toArray [tx [], tx []])) := .mk (by kernel_rfl)
theorem tZ79 : Zr Tryz.prog 79 (.agg (List.toArray [tx [], .slice none 0 0])) := .mk (by kernel_rfl)
theorem tB0 : ∀  (w : World), (Instr.build 26 (List.toArray [])).run Tryz.prog w = .ok (.agg (List.toArray [.int .u8 0, .int .u8 0, .int .u8 0, .int .u8 0, .int .u8 0, .slice none 0 0])) w := by intros; kernel_rfl
theorem tB1 : ∀ (y0 : Int) (y1 : Int) (y2 : Int) (y3 : Int) (y4 : Int) (w : World), (Instr.build 26 (List.toArray [(0, .agg (List.toArray [.int .u8 y0, .int .u8 y1, .int .u8 y2, .int .u8 y3, .int .u8 y4]))])).run Tryz.prog w = .ok (.agg (List.toArray [.int .u8 y0, .int .u8 y1, .int .u8 y2, .int .u8 y3, .int .u8 y4, .slice none 0 0])) w := by intros; kernel_rfl
theorem tB2 : ∀ (y0 : Str) (w : World), (Instr.build 79 (List.toArray [(0, tx y0)])).run Tryz.prog w = .ok (.agg (List.toArray [tx y0, .slice none 0 0])) w := by intros; kernel_rfl
theorem tB3 : ∀ (y0 : Str) (y1 : Str) (w : World), (Instr.index 68 (.agg (List.toArray [tx y0, tx y1])) (nI 0)).run Tryz.prog w = .ok (tx y0) w := by intros; kernel_rfl
theorem tB4 : ∀ (y0 : Str) (y1 : Str) (w : World), (Instr.index 68 (.agg (List.toArray [tx y0, tx y1])) (nI 1)).run Tryz.prog w = .ok (tx y1) w := by intros; kernel_rfl
theorem tB5 : ∀ (y0 : Sl) (y1 : Sl) (w : World), (Instr.buildSlice 45 2 (List.toArray [(0, sl y0), (1, sl y1)])).run Tryz.prog w = .ok (.slice (some ⟨w.heap.size, 0, none⟩) 2 2) (w.alloc (.cells (List.toArray [sl y0, sl y1]) 44)) := by intros; kernel_rfl
theorem tB6 : ∀ (y0 : Sl) (w : World), (Instr.buildSlice 45 1 (List.toArray [(0, sl y0)])).run Tryz.prog w = .ok (.slice (some ⟨w.heap.size, 0, none⟩) 1 1) (w.alloc (.cells (List.toArray [sl y0]) 44)) := by intros; kernel_rfl
theorem tB7 : ∀ (y0 : Str) (y1 : Sl) (w : World), (Instr.buildSlice 24 1 (List.toArray [(0, .agg (List.toArray [tx y0, sl y1]))])).run Tryz.prog w = .ok (.slice (some ⟨w.heap.size, 0, none⟩) 1 1) (w.alloc (.cells (List.toArray [tx y0, sl y1]) 79)) := by intros; kernel_rfl
theorem tB8 : ∀ (y0 : Int) (w : World), (Instr.buildSlice 141 1 (List.toArray [(0, .int .u8 y0)])).run Tryz.prog w = .ok (.slice (some ⟨w.heap.size, 0, none⟩) 1 1) (w.alloc (.cells (List.toArray [.int .u8 y0]) 5)) := by intros; kernel_rfl
theorem tB9 : ∀ (y0 : Int) (y1 : Int) (y2 : Int) (y3 : Int) (y4 : Int) (y5 : Sl) (w : World), (Instr.field 26 (.agg (List.toArray [.int .u8 y0, .int .u8 y1, .int .u8 y2, .int .u8 y3, .int .u8 y4, sl y5])) 1).run Tryz.prog w = .ok (sl y5) w := by intros; kernel_rfl
theorem tB10 : ∀ (y0 : Str) (y1 : Sl) (w : World), (Instr.build 79 (List.toArray [(0, tx y0), (1, sl y1)])).run Tryz.prog w = .ok (.agg (List.toArray [tx y0, sl y1])) w := by intros; kernel_rfl
theorem tB11 : ∀ (y0 : Sl) (w : World), (Instr.buildSlice 38 1 (List.toArray [(0, sl y0)])).run Tryz.prog w = .ok (.slice (some ⟨w.heap.size, 0, none⟩) 1 1) (w.alloc (.cells (List.toArray [sl y0]) 80)) := by intros; kernel_rfl
theorem tB12 : ∀ (y0 : Sl) (w : World), (Instr.buildSlice 44 1 (List.toArray [(0, sl y0)])).run Tryz.prog w = .ok (.slice (some ⟨w.heap.size, 0, none⟩) 1 1) (w.alloc (.cells (List.toArray [sl y0]) 38)) := by intros; kernel_rfl
theorem tB13 : ∀ (y0 : Int) (y1 : Int) (y2 : Int) (y3 : Int) (y4 : Int) (y5 : Int) (y6 : Int) (y7 : Int) (y8 : Int) (y9 : Int), eqV Tryz.prog 4 23 (.agg (List.toArray [.int .u8 y0, .int .u8 y1, .int .u8 y2, .int .u8 y3, .int .u8 y4])) (.agg (List.toArray [.int .u8 y5, .int .u8 y6, .int .u8 y7, .int .u8 y8, .int .u8 y9])) = some ((y0 == y5) && ((y1 == y6) && ((y2 == y7) && ((y3 == y8) && ((y4 == y9) && true))))) := by intros; kernel_rfl
theorem tB14 : Tryz.prog.eqGuardType Tryz.prog.depth 23 = false := by intros; kernel_rfl
theorem tB15 : ∀  (w : World), (Instr.build 23 (List.toArray [])).run Tryz.prog w = .ok (.agg (List.toArray [.int .u8 0, .int .u8 0, .int .u8 0, .int .u8 0, .int .u8 0])) w := by intros; kernel_rfl
theorem tB16 : ∀ (y0 : Int) (y1 : Int) (y2 : Int) (y3 : Int) (y4 : Int) (w : World), (Instr.build 23 (List.toArray [(0, .int .u8 y0), (1, .int .u8 y1), (2, .int .u8 y2), (3, .int .u8 y3), (4, .int .u8 y4)])).run Tryz.prog w = .ok (.agg (List.toArray [.int .u8 y0, .int .u8 y1, .int .u8 y2, .int .u8 y3, .int .u8 y4])) w := by intros; kernel_rfl
theorem tB17 : ∀ (y0 : Str) (w : World), (Instr.buildSlice 80 1 (List.toArray [(0, tx y0)])).run Tryz.prog w = .ok (.slice (some ⟨w.heap.size, 0, none⟩) 1 1) (w.alloc (.cells (List.toArray [tx y0]) 9)) := by intros; kernel_rfl
theorem tB18 : ∀ (y0a : Option Addr) (y0b : Nat) (y0c : Nat) (w : World), (Instr.buildSlice 44 1 (List.toArray [(0, .slice y0a y0b y0c)])).run Tryz.prog w = .ok (.slice (some ⟨w.heap.size, 0, none⟩) 1 1) (w.alloc (.cells (List.toArray [.slice y0a y0b y0c]) 38)) := by intros; kernel_rfl
theorem tB19 : ∀ (y0a : Option Addr) (y0b : Nat) (y0c : Nat) (w : World), (Instr.buildSlice 38 1 (List.toArray [(0, .slice y0a y0b y0c)])).run Tryz.prog w = .ok (.slice (some ⟨w.heap.size, 0, none⟩) 1 1) (w.alloc (.cells (List.toArray [.slice y0a y0b y0c]) 80)) := by intros; kernel_rfl
theorem tB20 : ∀ (y0 : Str) (y1 : Str) (w : World), (Instr.build 68 (List.toArray [(0, tx y0), (1, tx y1)])).run Tryz.prog w = .ok (.agg (List.toArray [tx y0, tx y1])) w := by intros; kernel_rfl
theorem tB21 : ∀ (y0 : Int) (y1 : Int) (y2 : Int) (y3 : Int) (w : World), (Instr.buildSlice 141 4 (List.toArray [(0, .int .u8 y0), (1, .int .u8 y1), (2, .int .u8 y2), (3, .int .u8 y3)])).run Tryz.prog w = .ok (.slice (some ⟨w.heap.size, 0, none⟩) 4 4) (w.alloc (.cells (List.toArray [.int .u8 y0, .int .u8 y1, .int .u8 y2, .int .u8 y3]) 5)) := by intros; kernel_rfl
theorem tB22 : ∀ (y0 : Int) (y1 : Int) (y2 : Int) (w : World), (Instr.buildSlice 141 3 (List.toArray [(0, .int .u8 y0), (1, .int .u8 y1), (2, .int .u8 y2)])).run Tryz.prog w = .ok (.slice (some ⟨w.heap.size, 0, none⟩) 3 3) (w.alloc (.cells (List.toArray [.int .u8 y0, .int .u8 y1, .int .u8 y2]) 5)) := by intros; kernel_rfl
theorem tB23 : ∀ (y0 : Int) (y1 : Int) (y2 : Int) (y3 : Int) (y4 : Int) (w : World), (Instr.buildSlice 141 5 (List.toArray [(0, .int .u8 y0), (1, .int .u8 y1), (2, .int .u8 y2), (3, .int .u8 y3), (4, .int .u8 y4)])).run Tryz.prog w = .ok (.slice (some ⟨w.heap.size, 0, none⟩) 5 5) (w.alloc (.cells (List.toArray [.int .u8 y0, .int .u8 y1, .int .u8 y2, .int .u8 y3, .int .u8 y4]) 5)) := by intros; kernel_rfl
theorem tB24 : ∀  (w : World), (Instr.buildSlice 80 0 (List.toArray [])).run Tryz.prog w = .ok (.slice (some ⟨w.heap.size, 0, none⟩) 0 0) (w.alloc (.cells (List.toArray []) 9)) := by intros; kernel_rfl
theorem tB25 : ∀ (y0 : Int) (y1 : Int) (y2 : Int) (y3 : Int) (y4 : Int) (w : World), (Instr.build 286 (List.toArray [(0, .int .u8 y0), (1, .int .u8 y1), (2, .int .u8 y2), (3, .int .u8 y3), (4, .int .u8 y4)])).run Tryz.prog w = .ok (.agg (List.toArray [.int .u8 y0, .int .u8 y1, .int .u8 y2, .int .u8 y3, .int .u8 y4])) w := by intros; kernel_rfl
theorem tB26 : ∀ (y0a : Option Addr) (y0b : Nat) (y0c : Nat) (w : World), (Instr.buildSlice 45 1 (List.toArray [(0, .slice y0a y0b y0c)])).run Tryz.prog w = .ok (.slice (some ⟨w.heap.size, 0, none⟩) 1 1) (w.alloc (.cells (List.toArray [.slice y0a y0b y0c]) 44)) := by intros; kernel_rfl
theorem tB27 : ∀ (y0 : Str) (y1a : Option Addr) (y1b : Nat) (y1c : Nat) (w : World), (Instr.buildSlice 24 1 (List.toArray [(0, .agg (List.toArray [tx y0, .slice y1a y1b y1c]))])).run Tryz.prog w = .ok (.slice (some ⟨w.heap.size, 0, none⟩) 1 1) (w.alloc (.cells (List.toArray [tx y0, .slice y1a y1b y1c]) 79)) := by intros; kernel_rfl
theorem tB28 : ∀ (y0 : Int) (y1 : Int) (y2 : Int) (y3 : Int) (y4 : Int) (y5 : Sl) (w : World), (Instr.build 26 (List.toArray [(0, .agg (List.toArray [.int .u8 y0, .int .u8 y1, .int .u8 y2, .int .u8 y3, .int .u8 y4])), (1, sl y5)])).run Tryz.prog w = .ok (.agg (List.toArray [.int .u8 y0, .int .u8 y1, .int .u8 y2, .int .u8 y3, .int .u8 y4, sl y5])) w := by intros; kernel_rfl
theorem tB32 : ∀ (y0 : Str) (y1 : Int) (w : World), (Instr.build 28 (List.toArray [(0, tx y0), (1, nI y1)])).run Tryz.prog w = .ok (.agg (List.toArray [tx y0, nI y1, nI 0, nI 0, nI 0, nI 0])) w := by intros; kernel_rfl
theorem tB33 : ∀ (y0 : Str) (y1 : Int) (y2 : Int) (y3 : Int) (y4 : Int) (y5 : Int) (y6 : Str) (y7 : Int) (y8 : Int) (y9 : Int) (y10 : Int) (y11 : Int), eqV Tryz.prog 4 28 (.agg (List.toArray [tx y0, nI y1, nI y2, nI y3, nI y4, nI y5])) (.agg (List.toArray [tx y6, nI y7, nI y8, nI y9, nI y10, nI y11])) = some ((y0 == y6) && ((y1 == y7) && ((y2 == y8) && ((y3 == y9) && ((y4 == y10) && ((y5 == y11) && true)))))) := by intros; kernel_rfl
theorem tB34 : Tryz.prog.eqGuardType Tryz.prog.depth 28 = false := by intros; kernel_rfl
theorem tB35 : ∀  (w : World), (Instr.buildSlice 24 0 (List.toArray [])).run Tryz.prog w = .ok (.slice (some ⟨w.heap.size, 0, none⟩) 0 0) (w.alloc (.cells (List.toArray []) 79)) := by intros; kernel_rfl
theorem tB36 : ∀ (y0 : Str) (y1 : Int) (w : World), (Instr.build 28 (List.toArray [(0, tx y0), (2, nI y1)])).run Tryz.prog w = .ok (.agg (List.toArray [tx y0, nI 0, nI y1, nI 0, nI 0, nI 0])) w := by intros; kernel_rfl
theorem tB37 : ∀  (w : World), (Instr.build 304 (List.toArray [])).run Tryz.prog w = .ok (.agg (List.toArray [])) w := by intros; kernel_rfl
theorem tB38 : ∀  (w : World), (Instr.buildSlice 45 0 (List.toArray [])).run Tryz.prog w = .ok (.slice (some ⟨w.heap.size, 0, none⟩) 0 0) (w.alloc (.cells (List.toArray []) 44)) := by intros; kernel_rfl
theorem tB39 : ∀  (w : World), (Instr.buildSlice 44 0 (List.toArray [])).run Tryz.prog w = .ok (.slice (some ⟨w.heap.size, 0, none⟩) 0 0) (w.alloc (.cells (List.toArray []) 38)) := by intros; kernel_rfl
theorem tB40 : ∀  (w : World), (Instr.buildSlice 38 0 (List.toArray [])).run Tryz.prog w = .ok (.slice (some ⟨w.heap.size, 0, none⟩) 0 0) (w.alloc (.cells (List.toArray []) 80)) := by intros; kernel_rfl
theorem tB41 : ∀ (y0 : Str) (y1 : Int) (y2 : Int) (y3 : Int) (y4 : Int) (y5 : Int) (w : World), (Instr.build 28 (List.toArray [(0, tx y0), (1, nI y1), (2, nI y2), (3, nI y3), (4, nI y4), (5, nI y5)])).run Tryz.prog w = .ok (.agg (List.toArray [tx y0, nI y1, nI y2, nI y3, nI y4, nI y5])) w := by intros; kernel_rfl
theorem tB42 : ∀ (y0 : Int) (y1 : Int) (y2 : Int) (y3 : Int) (w : World), (Instr.build 206 (List.toArray [(0, nI y0), (1, nI y1), (2, nI y2), (3, nI y3)])).run Tryz.prog w = .ok (.agg (List.toArray [nI y0, nI y1, nI y2, nI y3])) w := by intros; kernel_rfl
theorem tB46 : ∀ (y0 : Str) (y1 : Int) (y2 : Int) (y3 : Int) (y4 : Int) (y5 : Int) (y6 : Str) (w : World), (Instr.build 189 (List.toArray [(0, .agg (List.toArray [tx y0, nI y1, nI y2, nI y3, nI y4, nI y5])), (1, tx y6)])).run Tryz.prog w = .ok (.agg (List.toArray [tx y0, nI y1, nI y2, nI y3, nI y4, nI y5, tx y6])) w := by intros; kernel_rfl
theorem tB47 : ∀ (y0 : Str) (y1 : Int) (y2 : Int) (y3 : Int) (y4 : Int) (y5 : Int) (y6 : Str) (y7 : Str) (y8 : Int) (y9 : Int) (y10 : Int) (y11 : Int) (y12 : Int) (y13 : Str) (y14 : Str) (y15 : Int) (y16 : Int) (y17 : Int) (y18 : Int) (y19 : Int) (y20 : Str) (y21 : Str) (y22 : Int) (y23 : Int) (y24 : Int) (y25 : Int) (y26 : Int) (y27 : Str) (y28 : Str) (y29 : Int) (y30 : Int) (y31 : Int) (y32 : Int) (y33 : Int) (y34 : Str) (y35 : Str) (y36 : Int) (y37 : Int) (y38 : Int) (y39 : Int) (y40 : Int) (y41 : Str) (y42 : Str) (y43 : Int) (y44 : Int) (y45 : Int) (y46 : Int) (y47 : Int) (y48 : Str) (y49 : Str) (y50 : Int) (y51 : Int) (y52 : Int) (y53 : Int) (y54 : Int) (y55 : Str) (y56 : Str) (y57 : Int) (y58 : Int) (y59 : Int) (y60 : Int) (y61 : Int) (y62 : Str) (y63 : Str) (y64 : Int) (y65 : Int) (y66 : Int) (y67 : Int) (y68 : Int) (y69 : Str) (w : World), (Instr.buildSlice 190 10 (List.toArray [(0, .agg (List.toArray [tx y0, nI y1, nI y2, nI y3, nI y4, nI y5, tx y6])), (1, .agg (List.toArray [tx y7, nI y8, nI y9, nI y10, nI y11, nI y12, tx y13])), (2, .agg (List.toArray [tx y14, nI y15, nI y16, nI y17, nI y18, nI y19, tx y20])), (3, .agg (List.toArray [tx y21, nI y22, nI y23, nI y24, nI y25, nI y26, tx y27])), (4, .agg (List.toArray [tx y28, nI y29, nI y30, nI y31, nI y32, nI y33, tx y34])), (5, .agg (List.toArray [tx y35, nI y36, nI y37, nI y38, nI y39, nI y40, tx y41])), (6, .agg (List.toArray [tx y42, nI y43, nI y44, nI y45, nI y46, nI y47, tx y48])), (7, .agg (List.toArray [tx y49, nI y50, nI y51, nI y52, nI y53, nI y54, tx y55])), (8, .agg (List.toArray [tx y56, nI y57, nI y58, nI y59, nI y60, nI y61, tx y62])), (9, .agg (List.toArray [tx y63, nI y64, nI y65, nI y66, nI y67, nI y68, tx y69]))])).run Tryz.prog w = .ok (.slice (some ⟨w.heap.size, 0, none⟩) 10 10) (w.alloc (.cells (List.toArray [tx y0, nI y1, nI y2, nI y3, nI y4, nI y5, tx y6, tx y7, nI y8, nI y9, nI y10, nI y11, nI y12, tx y13, tx y14, nI y15, nI y16, nI y17, nI y18, nI y19, tx y20, tx y21, nI y22, nI y23, nI y24, nI y25, nI y26, tx y27, tx y28, nI y29, nI y30, nI y31, nI y32, nI y33, tx y34, tx y35, nI y36, nI y37, nI y38, nI y39, nI y40, tx y41, tx y42, nI y43, nI y44, nI y45, nI y46, nI y47, tx y48, tx y49, nI y50, nI y51, nI y52, nI y53, nI y54, tx y55, tx y56, nI y57, nI y58, nI y59, nI y60, nI y61, tx y62, tx y63, nI y64, nI y65, nI y66, nI y67, nI y68, tx y69]) 189)) := by intros; kernel_rfl
end Go.Proofs.YthpeengmcjpknaaGreatDoor
