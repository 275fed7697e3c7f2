/- Facts on the types and functions of the program. -/
import Derived.Test.YtoaoofobidhfjaaGreatDoorRows
import Derived.Test.YtoaoofobidhfjaaGreatDoorUVQ
namespace Go.V
abbrev Sl.v (s : Sl) : Value := .slice s.base s.len s.cap
end Go.V
namespace Go.Proofs.YtoaoofobidhfjaaGreatDoor
open Go.V
abbrev mC (a b c d e : Int) (s : Sl) : List Value := [.int .u8 a, .int .u8 b, .int .u8 c, .int .u8 d, .int .u8 e, .slice s.base s.len s.cap]
abbrev pC (a : Str) (b c d e f : Int) : List Value := [.string (mkS a), .int .i64 b, .int .i64 c, .int .i64 d, .int .i64 e, .int .i64 f]
abbrev tA (l : List Value) : Array Value := List.toArray l
theorem wn {n : Nat} {ops : Array Oper} {ρ : Env} {o : Oper} {j : Nat} {b b' : Bool} {e : Nat} (hg : o.guard = some (j, b)) (hj : (ops[j]?).bind (·.dst) = some e) (hv : ev n ρ (.tmp e) = .bool b') (hb : (b' == b) = false) : wanted n ops ρ o = false := wanted_n hg hj hv hb
theorem wy {n : Nat} {ops : Array Oper} {ρ : Env} {o : Oper} {j : Nat} {b : Bool} {e : Nat} (hg : o.guard = some (j, b)) (hj : (ops[j]?).bind (·.dst) = some e) (hv : ev n ρ (.tmp e) = .bool b) : wanted n ops ρ o = true := wanted_y hg hj hv
theorem wu {n : Nat} {ops : Array Oper} {ρ : Env} {o : Oper} {j : Nat} {b : Bool} {e : Nat} (hg : o.guard = some (j, b)) (hj : (ops[j]?).bind (·.dst) = some e) (hv : ev n ρ (.tmp e) = undef) : wanted n ops ρ o = false := wanted_u hg hj hv
abbrev wr (x : Int) : Int := IntKind.i64.wrap x
theorem tA118 : Agg Tryz.prog 118 5 := ⟨by kernel_rfl, .mk (by kernel_rfl)⟩
theorem tA141 : Agg Tryz.prog 141 3 := ⟨by kernel_rfl, .mk (by kernel_rfl)⟩
theorem tA162 : Agg Tryz.prog 162 7 := ⟨by kernel_rfl, .mk (by kernel_rfl)⟩
theorem tA180 : Agg Tryz.prog 180 256 := ⟨by kernel_rfl, .mk (by kernel_rfl)⟩
theorem tA199 : Agg Tryz.prog 199 0 := ⟨by kernel_rfl, .mk (by kernel_rfl)⟩
theorem tA23 : Agg Tryz.prog 23 5 := ⟨by kernel_rfl, .mk (by kernel_rfl)⟩
theorem tA26 : Agg Tryz.prog 26 6 := ⟨by kernel_rfl, .mk (by kernel_rfl)⟩
theorem tA35 : Agg Tryz.prog 35 2 := ⟨by kernel_rfl, .mk (by kernel_rfl)⟩
theorem tA59 : Agg Tryz.prog 59 6 := ⟨by kernel_rfl, .mk (by kernel_rfl)⟩
theorem tA68 : Agg Tryz.prog 68 2 := ⟨by kernel_rfl, .mk (by kernel_rfl)⟩
theorem tF162_0 : Fld Tryz.prog 162 0 0 59 5 := ⟨by kernel_rfl, .mk (by kernel_rfl)⟩
theorem tF162_1 : Fld Tryz.prog 162 1 6 9 0 := ⟨by kernel_rfl, .mk (by kernel_rfl)⟩
theorem tF23_0 : Fld Tryz.prog 23 0 0 5 0 := ⟨by kernel_rfl, .mk (by kernel_rfl)⟩
theorem tF23_1 : Fld Tryz.prog 23 1 1 5 0 := ⟨by kernel_rfl, .mk (by kernel_rfl)⟩
theorem tF23_2 : Fld Tryz.prog 23 2 2 5 0 := ⟨by kernel_rfl, .mk (by kernel_rfl)⟩
theorem tF23_3 : Fld Tryz.prog 23 3 3 5 0 := ⟨by kernel_rfl, .mk (by kernel_rfl)⟩
theorem tF23_4 : Fld Tryz.prog 23 4 4 5 0 := ⟨by kernel_rfl, .mk (by kernel_rfl)⟩
theorem tF26_0 : Fld Tryz.prog 26 0 0 23 4 := ⟨by kernel_rfl, .mk (by kernel_rfl)⟩
theorem tF26_1 : Fld Tryz.prog 26 1 5 24 0 := ⟨by kernel_rfl, .mk (by kernel_rfl)⟩
theorem tF35_0 : Fld Tryz.prog 35 0 0 9 0 := ⟨by kernel_rfl, .mk (by kernel_rfl)⟩
theorem tF35_1 : Fld Tryz.prog 35 1 1 33 0 := ⟨by kernel_rfl, .mk (by kernel_rfl)⟩
theorem tF59_0 : Fld Tryz.prog 59 0 0 9 0 := ⟨by kernel_rfl, .mk (by kernel_rfl)⟩
theorem tF59_1 : Fld Tryz.prog 59 1 1 3 0 := ⟨by kernel_rfl, .mk (by kernel_rfl)⟩
theorem tF59_2 : Fld Tryz.prog 59 2 2 3 0 := ⟨by kernel_rfl, .mk (by kernel_rfl)⟩
theorem tF59_3 : Fld Tryz.prog 59 3 3 3 0 := ⟨by kernel_rfl, .mk (by kernel_rfl)⟩
theorem tF59_4 : Fld Tryz.prog 59 4 4 3 0 := ⟨by kernel_rfl, .mk (by kernel_rfl)⟩
theorem tF59_5 : Fld Tryz.prog 59 5 5 3 0 := ⟨by kernel_rfl, .mk (by kernel_rfl)⟩
theorem tF85_1 : Fld Tryz.prog 85 1 1 39 0 := ⟨by kernel_rfl, .mk (by kernel_rfl)⟩
theorem tN100 : IsFn Tryz.prog 100 := .mk (by kernel_rfl)
theorem tN101 : IsFn Tryz.prog 101 := .mk (by kernel_rfl)
theorem tN102 : IsFn Tryz.prog 102 := .mk (by kernel_rfl)
theorem tN103 : IsFn Tryz.prog 103 := .mk (by kernel_rfl)
theorem tN104 : IsFn Tryz.prog 104 := .mk (by kernel_rfl)
theorem tN105 : IsFn Tryz.prog 105 := .mk (by kernel_rfl)
theorem tN106 : IsFn Tryz.prog 106 := .mk (by kernel_rfl)
theorem tN107 : IsFn Tryz.prog 107 := .mk (by kernel_rfl)
theorem tN108 : IsFn Tryz.prog 108 := .mk (by kernel_rfl)
theorem tN109 : IsFn Tryz.prog 109 := .mk (by kernel_rfl)
theorem tN110 : IsFn Tryz.prog 110 := .mk (by kernel_rfl)
theorem tN111 : IsFn Tryz.prog 111 := .mk (by kernel_rfl)
theorem tN112 : IsFn Tryz.prog 112 := .mk (by kernel_rfl)
theorem tN113 : IsFn Tryz.prog 113 := .mk (by kernel_rfl)
theorem tN114 : IsFn Tryz.prog 114 := .mk (by kernel_rfl)
theorem tN116 : IsFn Tryz.prog 116 := .mk (by kernel_rfl)
theorem tN118 : IsFn Tryz.prog 118 := .mk (by kernel_rfl)
theorem tN121 : IsFn Tryz.prog 121 := .mk (by kernel_rfl)
theorem tN125 : IsFn Tryz.prog 125 := .mk (by kernel_rfl)
theorem tN127 : IsFn Tryz.prog 127 := .mk (by kernel_rfl)
theorem tN129 : IsFn Tryz.prog 129 := .mk (by kernel_rfl)
theorem tN130 : IsFn Tryz.prog 130 := .mk (by kernel_rfl)
theorem tN131 : IsFn Tryz.prog 131 := .mk (by kernel_rfl)
theorem tN132 : IsFn Tryz.prog 132 := .mk (by kernel_rfl)
theorem tN133 : IsFn Tryz.prog 133 := .mk (by kernel_rfl)
theorem tN14 : IsFn Tryz.prog 14 := .mk (by kernel_rfl)
theorem tN146 : IsFn Tryz.prog 146 := .mk (by kernel_rfl)
theorem tN147 : IsFn Tryz.prog 147 := .mk (by kernel_rfl)
theorem tN148 : IsFn Tryz.prog 148 := .mk (by kernel_rfl)
theorem tN15 : IsFn Tryz.prog 15 := .mk (by kernel_rfl)
theorem tN150 : IsFn Tryz.prog 150 := .mk (by kernel_rfl)
theorem tN152 : IsFn Tryz.prog 152 := .mk (by kernel_rfl)
theorem tN154 : IsFn Tryz.prog 154 := .mk (by kernel_rfl)
theorem tN156 : IsFn Tryz.prog 156 := .mk (by kernel_rfl)
theorem tN158 : IsFn Tryz.prog 158 := .mk (by kernel_rfl)
theorem tN159 : IsFn Tryz.prog 159 := .mk (by kernel_rfl)
theorem tN160 : IsFn Tryz.prog 160 := .mk (by kernel_rfl)
theorem tN161 : IsFn Tryz.prog 161 := .mk (by kernel_rfl)
theorem tN162 : IsFn Tryz.prog 162 := .mk (by kernel_rfl)
theorem tN163 : IsFn Tryz.prog 163 := .mk (by kernel_rfl)
theorem tN164 : IsFn Tryz.prog 164 := .mk (by kernel_rfl)
theorem tN165 : IsFn Tryz.prog 165 := .mk (by kernel_rfl)
theorem tN166 : IsFn Tryz.prog 166 := .mk (by kernel_rfl)
theorem tN167 : IsFn Tryz.prog 167 := .mk (by kernel_rfl)
theorem tN168 : IsFn Tryz.prog 168 := .mk (by kernel_rfl)
theorem tN169 : IsFn Tryz.prog 169 := .mk (by kernel_rfl)
theorem tN17 : IsFn Tryz.prog 17 := .mk (by kernel_rfl)
theorem tN172 : IsFn Tryz.prog 172 := .mk (by kernel_rfl)
theorem tN173 : IsFn Tryz.prog 173 := .mk (by kernel_rfl)
theorem tN174 : IsFn Tryz.prog 174 := .mk (by kernel_rfl)
theorem tN18 : IsFn Tryz.prog 18 := .mk (by kernel_rfl)
theorem tN183 : IsFn Tryz.prog 183 := .mk (by kernel_rfl)
theorem tN184 : IsFn Tryz.prog 184 := .mk (by kernel_rfl)
theorem tN185 : IsFn Tryz.prog 185 := .mk (by kernel_rfl)
theorem tN186 : IsFn Tryz.prog 186 := .mk (by kernel_rfl)
theorem tN187 : IsFn Tryz.prog 187 := .mk (by kernel_rfl)
theorem tN188 : IsFn Tryz.prog 188 := .mk (by kernel_rfl)
theorem tN193 : IsFn Tryz.prog 193 := .mk (by kernel_rfl)
theorem tN194 : IsFn Tryz.prog 194 := .mk (by kernel_rfl)
theorem tN20 : IsFn Tryz.prog 20 := .mk (by kernel_rfl)
theorem tN21 : IsFn Tryz.prog 21 := .mk (by kernel_rfl)
theorem tN22 : IsFn Tryz.prog 22 := .mk (by kernel_rfl)
theorem tN23 : IsFn Tryz.prog 23 := .mk (by kernel_rfl)
theorem tN26 : IsFn Tryz.prog 26 := .mk (by kernel_rfl)
theorem tN27 : IsFn Tryz.prog 27 := .mk (by kernel_rfl)
theorem tN28 : IsFn Tryz.prog 28 := .mk (by kernel_rfl)
theorem tN30 : IsFn Tryz.prog 30 := .mk (by kernel_rfl)
theorem tN31 : IsFn Tryz.prog 31 := .mk (by kernel_rfl)
theorem tN36 : IsFn Tryz.prog 36 := .mk (by kernel_rfl)
theorem tN37 : IsFn Tryz.prog 37 := .mk (by kernel_rfl)
theorem tN38 : IsFn Tryz.prog 38 := .mk (by kernel_rfl)
theorem tN39 : IsFn Tryz.prog 39 := .mk (by kernel_rfl)
theorem tN40 : IsFn Tryz.prog 40 := .mk (by kernel_rfl)
theorem tN41 : IsFn Tryz.prog 41 := .mk (by kernel_rfl)
theorem tN42 : IsFn Tryz.prog 42 := .mk (by kernel_rfl)
theorem tN43 : IsFn Tryz.prog 43 := .mk (by kernel_rfl)
theorem tN44 : IsFn Tryz.prog 44 := .mk (by kernel_rfl)
theorem tN45 : IsFn Tryz.prog 45 := .mk (by kernel_rfl)
theorem tN46 : IsFn Tryz.prog 46 := .mk (by kernel_rfl)
theorem tN50 : IsFn Tryz.prog 50 := .mk (by kernel_rfl)
theorem tN53 : IsFn Tryz.prog 53 := .mk (by kernel_rfl)
theorem tN54 : IsFn Tryz.prog 54 := .mk (by kernel_rfl)
theorem tN55 : IsFn Tryz.prog 55 := .mk (by kernel_rfl)
theorem tN56 : IsFn Tryz.prog 56 := .mk (by kernel_rfl)
theorem tN57 : IsFn Tryz.prog 57 := .mk (by kernel_rfl)
theorem tN58 : IsFn Tryz.prog 58 := .mk (by kernel_rfl)
theorem tN59 : IsFn Tryz.prog 59 := .mk (by kernel_rfl)
theorem tN60 : IsFn Tryz.prog 60 := .mk (by kernel_rfl)
theorem tN61 : IsFn Tryz.prog 61 := .mk (by kernel_rfl)
theorem tN62 : IsFn Tryz.prog 62 := .mk (by kernel_rfl)
theorem tN63 : IsFn Tryz.prog 63 := .mk (by kernel_rfl)
theorem tN64 : IsFn Tryz.prog 64 := .mk (by kernel_rfl)
theorem tN66 : IsFn Tryz.prog 66 := .mk (by kernel_rfl)
theorem tN68 : IsFn Tryz.prog 68 := .mk (by kernel_rfl)
theorem tN70 : IsFn Tryz.prog 70 := .mk (by kernel_rfl)
theorem tN71 : IsFn Tryz.prog 71 := .mk (by kernel_rfl)
theorem tN73 : IsFn Tryz.prog 73 := .mk (by kernel_rfl)
theorem tN74 : IsFn Tryz.prog 74 := .mk (by kernel_rfl)
theorem tN75 : IsFn Tryz.prog 75 := .mk (by kernel_rfl)
theorem tN76 : IsFn Tryz.prog 76 := .mk (by kernel_rfl)
theorem tN78 : IsFn Tryz.prog 78 := .mk (by kernel_rfl)
theorem tN80 : IsFn Tryz.prog 80 := .mk (by kernel_rfl)
theorem tN82 : IsFn Tryz.prog 82 := .mk (by kernel_rfl)
theorem tN83 : IsFn Tryz.prog 83 := .mk (by kernel_rfl)
theorem tN85 : IsFn Tryz.prog 85 := .mk (by kernel_rfl)
theorem tN86 : IsFn Tryz.prog 86 := .mk (by kernel_rfl)
theorem tN87 : IsFn Tryz.prog 87 := .mk (by kernel_rfl)
theorem tN88 : IsFn Tryz.prog 88 := .mk (by kernel_rfl)
theorem tN89 : IsFn Tryz.prog 89 := .mk (by kernel_rfl)
theorem tN91 : IsFn Tryz.prog 91 := .mk (by kernel_rfl)
theorem tN92 : IsFn Tryz.prog 92 := .mk (by kernel_rfl)
theorem tN98 : IsFn Tryz.prog 98 := .mk (by kernel_rfl)
theorem tN99 : IsFn Tryz.prog 99 := .mk (by kernel_rfl)
theorem tO103 : One Tryz.prog 103 := ⟨by kernel_rfl, .mk (by kernel_rfl)⟩
theorem tO109 : One Tryz.prog 109 := ⟨by kernel_rfl, .mk (by kernel_rfl)⟩
theorem tO111 : One Tryz.prog 111 := ⟨by kernel_rfl, .mk (by kernel_rfl)⟩
theorem tO113 : One Tryz.prog 113 := ⟨by kernel_rfl, .mk (by kernel_rfl)⟩
theorem tO24 : One Tryz.prog 24 := ⟨by kernel_rfl, .mk (by kernel_rfl)⟩
theorem tO3 : One Tryz.prog 3 := ⟨by kernel_rfl, .mk (by kernel_rfl)⟩
theorem tO33 : One Tryz.prog 33 := ⟨by kernel_rfl, .mk (by kernel_rfl)⟩
theorem tO36 : One Tryz.prog 36 := ⟨by kernel_rfl, .mk (by kernel_rfl)⟩
theorem tO37 : One Tryz.prog 37 := ⟨by kernel_rfl, .mk (by kernel_rfl)⟩
theorem tO38 : One Tryz.prog 38 := ⟨by kernel_rfl, .mk (by kernel_rfl)⟩
theorem tO39 : One Tryz.prog 39 := ⟨by kernel_rfl, .mk (by kernel_rfl)⟩
theorem tO4 : One Tryz.prog 4 := ⟨by kernel_rfl, .mk (by kernel_rfl)⟩
theorem tO5 : One Tryz.prog 5 := ⟨by kernel_rfl, .mk (by kernel_rfl)⟩
theorem tO78 : One Tryz.prog 78 := ⟨by kernel_rfl, .mk (by kernel_rfl)⟩
theorem tO80 : One Tryz.prog 80 := ⟨by kernel_rfl, .mk (by kernel_rfl)⟩
theorem tO9 : One Tryz.prog 9 := ⟨by kernel_rfl, .mk (by kernel_rfl)⟩
theorem tO94 : One Tryz.prog 94 := ⟨by kernel_rfl, .mk (by kernel_rfl)⟩
theorem tS162 : Sz Tryz.prog 162 7 := .mk (by kernel_rfl)
theorem tS35 : Sz Tryz.prog 35 2 := .mk (by kernel_rfl)
theorem tS36 : Sz Tryz.prog 36 1 := .mk (by kernel_rfl)
theorem tS37 : Sz Tryz.prog 37 1 := .mk (by kernel_rfl)
theorem tS38 : Sz Tryz.prog 38 1 := .mk (by kernel_rfl)
theorem tS4 : Sz Tryz.prog 4 1 := .mk (by kernel_rfl)
theorem tS5 : Sz Tryz.prog 5 1 := .mk (by kernel_rfl)
theorem tS9 : Sz Tryz.prog 9 1 := .mk (by kernel_rfl)
theorem tU118 : Tryz.prog.underlying 118 = some (.array 5 5) := by kernel_rfl
theorem tU141 : Tryz.prog.underlying 141 = some (.array 3 9) := by kernel_rfl
theorem tU163 : Tryz.prog.underlying 163 = some (.slice 162) := by kernel_rfl
theorem tU180 : Tryz.prog.underlying 180 = some (.array 256 4) := by kernel_rfl
theorem tU24 : Tryz.prog.underlying 24 = some (.slice 35) := by kernel_rfl
theorem tU3 : Tryz.prog.underlying 3 = some (.int .i64) := by kernel_rfl
theorem tU33 : Tryz.prog.underlying 33 = some (.slice 38) := by kernel_rfl
theorem tU36 : Tryz.prog.underlying 36 = some (.slice 9) := by kernel_rfl
theorem tU37 : Tryz.prog.underlying 37 = some (.slice 36) := by kernel_rfl
theorem tU38 : Tryz.prog.underlying 38 = some (.slice 37) := by kernel_rfl
theorem tU39 : Tryz.prog.underlying 39 = some (.slice 5) := by kernel_rfl
theorem tU4 : Tryz.prog.underlying 4 = some (.bool) := by kernel_rfl
theorem tU5 : Tryz.prog.underlying 5 = some (.int .u8) := by kernel_rfl
theorem tU68 : Tryz.prog.underlying 68 = some (.array 2 9) := by kernel_rfl
theorem tU9 : Tryz.prog.underlying 9 = some (.string) := by kernel_rfl
theorem tZ103 : Zr Tryz.prog 103 (.nilFunc) := .mk (by kernel_rfl)
theorem tZ109 : Zr Tryz.prog 109 (.nilFunc) := .mk (by kernel_rfl)
theorem tZ111 : Zr Tryz.prog 111 (.nilFunc) := .mk (by kernel_rfl)
theorem tZ113 : Zr Tryz.prog 113 (.nilFunc) := .mk (by kernel_rfl)
theorem tZ118 : Zr Tryz.prog 118 (.agg (List.toArray [.int .u8 0, .int .u8 0, .int .u8 0, .int .u8 0, .int .u8 0])) := .mk (by kernel_rfl)
theorem tZ141 : Zr Tryz.prog 141 (.agg (List.toArray [.string (mkS []), .string (mkS []), .string (mkS [])])) := .mk (by kernel_rfl)
theorem tZ162 : Zr Tryz.prog 162 (.agg (List.toArray [.string (mkS []), .int .i64 0, .int .i64 0, .int .i64 0, .int .i64 0, .int .i64 0, .string (mkS [])])) := .mk (by kernel_rfl)
theorem tZ180 : Zr Tryz.prog 180 (.agg (List.toArray (List.replicate 256 (.bool false)))) := .mk (by kernel_rfl)
theorem tZ199 : Zr Tryz.prog 199 (.agg (List.toArray [])) := .mk (by kernel_rfl)
theorem tZ23 : Zr Tryz.prog 23 (.agg (List.toArray [.int .u8 0, .int .u8 0, .int .u8 0, .int .u8 0, .int .u8 0])) := .mk (by kernel_rfl)
theorem tZ26 : Zr Tryz.prog 26 (.agg (List.toArray [.int .u8 0, .int .u8 0, .int .u8 0, .int .u8 0, .int .u8 0, .slice none 0 0])) := .mk (by kernel_rfl)
theorem tZ35 : Zr Tryz.prog 35 (.agg (List.toArray [.string (mkS []), .slice none 0 0])) := .mk (by kernel_rfl)
theorem tZ4 : Zr Tryz.prog 4 (.bool false) := .mk (by kernel_rfl)
theorem tZ59 : Zr Tryz.prog 59 (.agg (List.toArray [.string (mkS []), .int .i64 0, .int .i64 0, .int .i64 0, .int .i64 0, .int .i64 0])) := .mk (by kernel_rfl)
theorem tZ68 : Zr Tryz.prog 68 (.agg (List.toArray [.string (mkS []), .string (mkS [])])) := .mk (by kernel_rfl)
theorem tZ78 : Zr Tryz.prog 78 (.nilFunc) := .mk (by kernel_rfl)
theorem tZ80 : Zr Tryz.prog 80 (.nilFunc) := .mk (by kernel_rfl)
theorem tZ85 : Zr Tryz.prog 85 (.agg (List.toArray [.pointer none, .slice none 0 0])) := .mk (by kernel_rfl)
theorem tZ94 : Zr Tryz.prog 94 (.nilFunc) := .mk (by kernel_rfl)
theorem tB0 : ∀ (y0 : Int) (y1 : Int) (y2 : Int) (y3 : Int) (y4 : Int) (w : World), (Instr.build 26 (List.toArray [(0, .agg (List.toArray [.int .u8 y0, .int .u8 y1, .int .u8 y2, .int .u8 y3, .int .u8 y4]))])).run Tryz.prog w = .ok (.agg (List.toArray [.int .u8 y0, .int .u8 y1, .int .u8 y2, .int .u8 y3, .int .u8 y4, .slice none 0 0])) w := by intros; kernel_rfl
theorem tB1 : ∀ (y0 : Str) (y1 : Sl) (w : World), (Instr.build 35 (List.toArray [(0, .string (mkS y0)), (1, .slice y1.base y1.len y1.cap)])).run Tryz.prog w = .ok (.agg (List.toArray [.string (mkS y0), .slice y1.base y1.len y1.cap])) w := by intros; kernel_rfl
theorem tB2 : ∀ (y0 : Str) (y1 : Sl) (w : World), (Instr.buildSlice 24 1 (List.toArray [(0, .agg (List.toArray [.string (mkS y0), .slice y1.base y1.len y1.cap]))])).run Tryz.prog w = .ok (.slice (some ⟨w.heap.size, 0, none⟩) 1 1) (w.alloc (.cells (List.toArray [.string (mkS y0), .slice y1.base y1.len y1.cap]) 35)) := by intros; kernel_rfl
theorem tB3 : ∀ (y0 : Int) (y1 : Int) (y2 : Int) (y3 : Int) (y4 : Int) (y5 : Sl) (w : World), (Instr.field 26 (.agg (List.toArray [.int .u8 y0, .int .u8 y1, .int .u8 y2, .int .u8 y3, .int .u8 y4, .slice y5.base y5.len y5.cap])) 1).run Tryz.prog w = .ok (.slice y5.base y5.len y5.cap) w := by intros; kernel_rfl
theorem tB4 : ∀ (y0 : Str) (w : World), (Instr.build 35 (List.toArray [(0, .string (mkS y0))])).run Tryz.prog w = .ok (.agg (List.toArray [.string (mkS y0), .slice none 0 0])) w := by intros; kernel_rfl
theorem tB5 : ∀ (y0 : Sl) (w : World), (Instr.buildSlice 37 1 (List.toArray [(0, .slice y0.base y0.len y0.cap)])).run Tryz.prog w = .ok (.slice (some ⟨w.heap.size, 0, none⟩) 1 1) (w.alloc (.cells (List.toArray [.slice y0.base y0.len y0.cap]) 36)) := by intros; kernel_rfl
theorem tB6 : ∀ (y0 : Sl) (w : World), (Instr.buildSlice 38 1 (List.toArray [(0, .slice y0.base y0.len y0.cap)])).run Tryz.prog w = .ok (.slice (some ⟨w.heap.size, 0, none⟩) 1 1) (w.alloc (.cells (List.toArray [.slice y0.base y0.len y0.cap]) 37)) := by intros; kernel_rfl
theorem tB7 : ∀ (y0 : Sl) (w : World), (Instr.buildSlice 33 1 (List.toArray [(0, .slice y0.base y0.len y0.cap)])).run Tryz.prog w = .ok (.slice (some ⟨w.heap.size, 0, none⟩) 1 1) (w.alloc (.cells (List.toArray [.slice y0.base y0.len y0.cap]) 38)) := by intros; kernel_rfl
theorem tB8 : ∀ (y0 : Int) (y1 : Int) (y2 : Int) (w : World), (Instr.buildSlice 39 3 (List.toArray [(0, .int .u8 y0), (1, .int .u8 y1), (2, .int .u8 y2)])).run Tryz.prog w = .ok (.slice (some ⟨w.heap.size, 0, none⟩) 3 3) (w.alloc (.cells (List.toArray [.int .u8 y0, .int .u8 y1, .int .u8 y2]) 5)) := by intros; kernel_rfl
theorem tB9 : ∀ (y0 : Int) (y1 : Int) (y2 : Int) (y3 : Int) (y4 : Int) (w : World), (Instr.buildSlice 39 5 (List.toArray [(0, .int .u8 y0), (1, .int .u8 y1), (2, .int .u8 y2), (3, .int .u8 y3), (4, .int .u8 y4)])).run Tryz.prog w = .ok (.slice (some ⟨w.heap.size, 0, none⟩) 5 5) (w.alloc (.cells (List.toArray [.int .u8 y0, .int .u8 y1, .int .u8 y2, .int .u8 y3, .int .u8 y4]) 5)) := by intros; kernel_rfl
theorem tB10 : ∀ (y0 : Int) (w : World), (Instr.buildSlice 39 1 (List.toArray [(0, .int .u8 y0)])).run Tryz.prog w = .ok (.slice (some ⟨w.heap.size, 0, none⟩) 1 1) (w.alloc (.cells (List.toArray [.int .u8 y0]) 5)) := by intros; kernel_rfl
theorem tB11 : ∀  (w : World), (Instr.build 26 (List.toArray [])).run Tryz.prog w = .ok (.agg (List.toArray [.int .u8 0, .int .u8 0, .int .u8 0, .int .u8 0, .int .u8 0, .slice none 0 0])) w := by intros; kernel_rfl
theorem tB12 : ∀ (y0 : Str) (y1 : Str) (w : World), (Instr.index 68 (.agg (List.toArray [.string (mkS y0), .string (mkS y1)])) (.int .i64 0)).run Tryz.prog w = .ok (.string (mkS y0)) w := by intros; kernel_rfl
theorem tB13 : ∀ (y0 : Str) (y1 : Str) (w : World), (Instr.index 68 (.agg (List.toArray [.string (mkS y0), .string (mkS y1)])) (.int .i64 1)).run Tryz.prog w = .ok (.string (mkS y1)) w := by intros; kernel_rfl
theorem tB14 : ∀ (y0 : Sl) (y1 : Sl) (w : World), (Instr.buildSlice 33 2 (List.toArray [(0, .slice y0.base y0.len y0.cap), (1, .slice y1.base y1.len y1.cap)])).run Tryz.prog w = .ok (.slice (some ⟨w.heap.size, 0, none⟩) 2 2) (w.alloc (.cells (List.toArray [.slice y0.base y0.len y0.cap, .slice y1.base y1.len y1.cap]) 38)) := by intros; kernel_rfl
theorem tB15 : ∀ (y0 : Int) (y1 : Int) (y2 : Int) (y3 : Int) (y4 : Int) (y5 : Int) (y6 : Int) (y7 : Int) (y8 : Int) (y9 : Int), eqV Tryz.prog 4 23 (.agg (List.toArray [.int .u8 y0, .int .u8 y1, .int .u8 y2, .int .u8 y3, .int .u8 y4])) (.agg (List.toArray [.int .u8 y5, .int .u8 y6, .int .u8 y7, .int .u8 y8, .int .u8 y9])) = some ((y0 == y5) && ((y1 == y6) && ((y2 == y7) && ((y3 == y8) && ((y4 == y9) && true))))) := by intros; kernel_rfl
theorem tB16 : Tryz.prog.eqGuardType Tryz.prog.depth 23 = false := by intros; kernel_rfl
theorem tB17 : ∀ (y0 : Str) (y1 : Str) (w : World), (Instr.build 68 (List.toArray [(0, .string (mkS y0)), (1, .string (mkS y1))])).run Tryz.prog w = .ok (.agg (List.toArray [.string (mkS y0), .string (mkS y1)])) w := by intros; kernel_rfl
theorem tB18 : ∀ (y0 : Int) (y1 : Int) (y2 : Int) (y3 : Int) (w : World), (Instr.buildSlice 39 4 (List.toArray [(0, .int .u8 y0), (1, .int .u8 y1), (2, .int .u8 y2), (3, .int .u8 y3)])).run Tryz.prog w = .ok (.slice (some ⟨w.heap.size, 0, none⟩) 4 4) (w.alloc (.cells (List.toArray [.int .u8 y0, .int .u8 y1, .int .u8 y2, .int .u8 y3]) 5)) := by intros; kernel_rfl
theorem tB19 : ∀  (w : World), (Instr.buildSlice 36 0 (List.toArray [])).run Tryz.prog w = .ok (.slice (some ⟨w.heap.size, 0, none⟩) 0 0) (w.alloc (.cells (List.toArray []) 9)) := by intros; kernel_rfl
theorem tB20 : ∀  (w : World), (Instr.build 23 (List.toArray [])).run Tryz.prog w = .ok (.agg (List.toArray [.int .u8 0, .int .u8 0, .int .u8 0, .int .u8 0, .int .u8 0])) w := by intros; kernel_rfl
theorem tB21 : ∀ (y0 : Int) (y1 : Int) (y2 : Int) (y3 : Int) (y4 : Int) (w : World), (Instr.build 23 (List.toArray [(0, .int .u8 y0), (1, .int .u8 y1), (2, .int .u8 y2), (3, .int .u8 y3), (4, .int .u8 y4)])).run Tryz.prog w = .ok (.agg (List.toArray [.int .u8 y0, .int .u8 y1, .int .u8 y2, .int .u8 y3, .int .u8 y4])) w := by intros; kernel_rfl
theorem tB22 : ∀ (y0 : Str) (w : World), (Instr.buildSlice 36 1 (List.toArray [(0, .string (mkS y0))])).run Tryz.prog w = .ok (.slice (some ⟨w.heap.size, 0, none⟩) 1 1) (w.alloc (.cells (List.toArray [.string (mkS y0)]) 9)) := by intros; kernel_rfl
theorem tB23 : ∀ (y0a : Option Addr) (y0b : Nat) (y0c : Nat) (w : World), (Instr.buildSlice 38 1 (List.toArray [(0, .slice y0a y0b y0c)])).run Tryz.prog w = .ok (.slice (some ⟨w.heap.size, 0, none⟩) 1 1) (w.alloc (.cells (List.toArray [.slice y0a y0b y0c]) 37)) := by intros; kernel_rfl
theorem tB24 : ∀ (y0a : Option Addr) (y0b : Nat) (y0c : Nat) (w : World), (Instr.buildSlice 37 1 (List.toArray [(0, .slice y0a y0b y0c)])).run Tryz.prog w = .ok (.slice (some ⟨w.heap.size, 0, none⟩) 1 1) (w.alloc (.cells (List.toArray [.slice y0a y0b y0c]) 36)) := by intros; kernel_rfl
theorem tB25 : ∀ (y0 : Int) (y1 : Int) (y2 : Int) (y3 : Int) (y4 : Int) (w : World), (Instr.build 118 (List.toArray [(0, .int .u8 y0), (1, .int .u8 y1), (2, .int .u8 y2), (3, .int .u8 y3), (4, .int .u8 y4)])).run Tryz.prog w = .ok (.agg (List.toArray [.int .u8 y0, .int .u8 y1, .int .u8 y2, .int .u8 y3, .int .u8 y4])) w := by intros; kernel_rfl
theorem tB26 : ∀ (y0a : Option Addr) (y0b : Nat) (y0c : Nat) (w : World), (Instr.buildSlice 33 1 (List.toArray [(0, .slice y0a y0b y0c)])).run Tryz.prog w = .ok (.slice (some ⟨w.heap.size, 0, none⟩) 1 1) (w.alloc (.cells (List.toArray [.slice y0a y0b y0c]) 38)) := by intros; kernel_rfl
theorem tB29 : ∀  (w : World), (Instr.buildSlice 37 0 (List.toArray [])).run Tryz.prog w = .ok (.slice (some ⟨w.heap.size, 0, none⟩) 0 0) (w.alloc (.cells (List.toArray []) 36)) := by intros; kernel_rfl
theorem tB30 : ∀ (y0 : Int) (y1 : Int) (y2 : Int) (y3 : Int) (y4 : Int) (y5 : Sl) (w : World), (Instr.build 26 (List.toArray [(0, .agg (List.toArray [.int .u8 y0, .int .u8 y1, .int .u8 y2, .int .u8 y3, .int .u8 y4])), (1, .slice y5.base y5.len y5.cap)])).run Tryz.prog w = .ok (.agg (List.toArray [.int .u8 y0, .int .u8 y1, .int .u8 y2, .int .u8 y3, .int .u8 y4, .slice y5.base y5.len y5.cap])) w := by intros; kernel_rfl
theorem tB31 : ∀ (y0 : Str) (y1a : Option Addr) (y1b : Nat) (y1c : Nat) (w : World), (Instr.buildSlice 24 1 (List.toArray [(0, .agg (List.toArray [.string (mkS y0), .slice y1a y1b y1c]))])).run Tryz.prog w = .ok (.slice (some ⟨w.heap.size, 0, none⟩) 1 1) (w.alloc (.cells (List.toArray [.string (mkS y0), .slice y1a y1b y1c]) 35)) := by intros; kernel_rfl
theorem tB35 : ∀ (y0 : Str) (y1 : Int) (w : World), (Instr.build 59 (List.toArray [(0, .string (mkS y0)), (1, .int .i64 y1)])).run Tryz.prog w = .ok (.agg (List.toArray [.string (mkS y0), .int .i64 y1, .int .i64 0, .int .i64 0, .int .i64 0, .int .i64 0])) w := by intros; kernel_rfl
theorem tB36 : ∀ (y0 : Str) (y1 : Int) (y2 : Int) (y3 : Int) (y4 : Int) (y5 : Int) (y6 : Str) (y7 : Int) (y8 : Int) (y9 : Int) (y10 : Int) (y11 : Int), eqV Tryz.prog 4 59 (.agg (List.toArray [.string (mkS y0), .int .i64 y1, .int .i64 y2, .int .i64 y3, .int .i64 y4, .int .i64 y5])) (.agg (List.toArray [.string (mkS y6), .int .i64 y7, .int .i64 y8, .int .i64 y9, .int .i64 y10, .int .i64 y11])) = some ((y0 == y6) && ((y1 == y7) && ((y2 == y8) && ((y3 == y9) && ((y4 == y10) && ((y5 == y11) && true)))))) := by intros; kernel_rfl
theorem tB37 : Tryz.prog.eqGuardType Tryz.prog.depth 59 = false := by intros; kernel_rfl
theorem tB38 : ∀  (w : World), (Instr.buildSlice 24 0 (List.toArray [])).run Tryz.prog w = .ok (.slice (some ⟨w.heap.size, 0, none⟩) 0 0) (w.alloc (.cells (List.toArray []) 35)) := by intros; kernel_rfl
theorem tB39 : ∀ (y0 : Str) (y1 : Int) (w : World), (Instr.build 59 (List.toArray [(0, .string (mkS y0)), (2, .int .i64 y1)])).run Tryz.prog w = .ok (.agg (List.toArray [.string (mkS y0), .int .i64 0, .int .i64 y1, .int .i64 0, .int .i64 0, .int .i64 0])) w := by intros; kernel_rfl
theorem tB40 : ∀  (w : World), (Instr.build 199 (List.toArray [])).run Tryz.prog w = .ok (.agg (List.toArray [])) w := by intros; kernel_rfl
theorem tB41 : ∀  (w : World), (Instr.buildSlice 33 0 (List.toArray [])).run Tryz.prog w = .ok (.slice (some ⟨w.heap.size, 0, none⟩) 0 0) (w.alloc (.cells (List.toArray []) 38)) := by intros; kernel_rfl
theorem tB42 : ∀  (w : World), (Instr.buildSlice 38 0 (List.toArray [])).run Tryz.prog w = .ok (.slice (some ⟨w.heap.size, 0, none⟩) 0 0) (w.alloc (.cells (List.toArray []) 37)) := by intros; kernel_rfl
theorem tB43 : ∀ (y0 : Str) (y1 : Int) (y2 : Int) (y3 : Int) (y4 : Int) (y5 : Int) (y6 : Str) (w : World), (Instr.build 162 (List.toArray [(0, .agg (List.toArray [.string (mkS y0), .int .i64 y1, .int .i64 y2, .int .i64 y3, .int .i64 y4, .int .i64 y5])), (1, .string (mkS y6))])).run Tryz.prog w = .ok (.agg (List.toArray [.string (mkS y0), .int .i64 y1, .int .i64 y2, .int .i64 y3, .int .i64 y4, .int .i64 y5, .string (mkS y6)])) w := by intros; kernel_rfl
theorem tB44 : ∀ (y0 : Str) (y1 : Int) (y2 : Int) (y3 : Int) (y4 : Int) (y5 : Int) (y6 : Str) (y7 : Str) (y8 : Int) (y9 : Int) (y10 : Int) (y11 : Int) (y12 : Int) (y13 : Str) (y14 : Str) (y15 : Int) (y16 : Int) (y17 : Int) (y18 : Int) (y19 : Int) (y20 : Str) (y21 : Str) (y22 : Int) (y23 : Int) (y24 : Int) (y25 : Int) (y26 : Int) (y27 : Str) (y28 : Str) (y29 : Int) (y30 : Int) (y31 : Int) (y32 : Int) (y33 : Int) (y34 : Str) (y35 : Str) (y36 : Int) (y37 : Int) (y38 : Int) (y39 : Int) (y40 : Int) (y41 : Str) (y42 : Str) (y43 : Int) (y44 : Int) (y45 : Int) (y46 : Int) (y47 : Int) (y48 : Str) (y49 : Str) (y50 : Int) (y51 : Int) (y52 : Int) (y53 : Int) (y54 : Int) (y55 : Str) (y56 : Str) (y57 : Int) (y58 : Int) (y59 : Int) (y60 : Int) (y61 : Int) (y62 : Str) (y63 : Str) (y64 : Int) (y65 : Int) (y66 : Int) (y67 : Int) (y68 : Int) (y69 : Str) (w : World), (Instr.buildSlice 163 10 (List.toArray [(0, .agg (List.toArray [.string (mkS y0), .int .i64 y1, .int .i64 y2, .int .i64 y3, .int .i64 y4, .int .i64 y5, .string (mkS y6)])), (1, .agg (List.toArray [.string (mkS y7), .int .i64 y8, .int .i64 y9, .int .i64 y10, .int .i64 y11, .int .i64 y12, .string (mkS y13)])), (2, .agg (List.toArray [.string (mkS y14), .int .i64 y15, .int .i64 y16, .int .i64 y17, .int .i64 y18, .int .i64 y19, .string (mkS y20)])), (3, .agg (List.toArray [.string (mkS y21), .int .i64 y22, .int .i64 y23, .int .i64 y24, .int .i64 y25, .int .i64 y26, .string (mkS y27)])), (4, .agg (List.toArray [.string (mkS y28), .int .i64 y29, .int .i64 y30, .int .i64 y31, .int .i64 y32, .int .i64 y33, .string (mkS y34)])), (5, .agg (List.toArray [.string (mkS y35), .int .i64 y36, .int .i64 y37, .int .i64 y38, .int .i64 y39, .int .i64 y40, .string (mkS y41)])), (6, .agg (List.toArray [.string (mkS y42), .int .i64 y43, .int .i64 y44, .int .i64 y45, .int .i64 y46, .int .i64 y47, .string (mkS y48)])), (7, .agg (List.toArray [.string (mkS y49), .int .i64 y50, .int .i64 y51, .int .i64 y52, .int .i64 y53, .int .i64 y54, .string (mkS y55)])), (8, .agg (List.toArray [.string (mkS y56), .int .i64 y57, .int .i64 y58, .int .i64 y59, .int .i64 y60, .int .i64 y61, .string (mkS y62)])), (9, .agg (List.toArray [.string (mkS y63), .int .i64 y64, .int .i64 y65, .int .i64 y66, .int .i64 y67, .int .i64 y68, .string (mkS y69)]))])).run Tryz.prog w = .ok (.slice (some ⟨w.heap.size, 0, none⟩) 10 10) (w.alloc (.cells (List.toArray [.string (mkS y0), .int .i64 y1, .int .i64 y2, .int .i64 y3, .int .i64 y4, .int .i64 y5, .string (mkS y6), .string (mkS y7), .int .i64 y8, .int .i64 y9, .int .i64 y10, .int .i64 y11, .int .i64 y12, .string (mkS y13), .string (mkS y14), .int .i64 y15, .int .i64 y16, .int .i64 y17, .int .i64 y18, .int .i64 y19, .string (mkS y20), .string (mkS y21), .int .i64 y22, .int .i64 y23, .int .i64 y24, .int .i64 y25, .int .i64 y26, .string (mkS y27), .string (mkS y28), .int .i64 y29, .int .i64 y30, .int .i64 y31, .int .i64 y32, .int .i64 y33, .string (mkS y34), .string (mkS y35), .int .i64 y36, .int .i64 y37, .int .i64 y38, .int .i64 y39, .int .i64 y40, .string (mkS y41), .string (mkS y42), .int .i64 y43, .int .i64 y44, .int .i64 y45, .int .i64 y46, .int .i64 y47, .string (mkS y48), .string (mkS y49), .int .i64 y50, .int .i64 y51, .int .i64 y52, .int .i64 y53, .int .i64 y54, .string (mkS y55), .string (mkS y56), .int .i64 y57, .int .i64 y58, .int .i64 y59, .int .i64 y60, .int .i64 y61, .string (mkS y62), .string (mkS y63), .int .i64 y64, .int .i64 y65, .int .i64 y66, .int .i64 y67, .int .i64 y68, .string (mkS y69)]) 162)) := by intros; kernel_rfl
theorem tB45 : ∀ (y0 : Str) (y1 : Int) (y2 : Int) (y3 : Int) (y4 : Int) (y5 : Int) (w : World), (Instr.build 59 (List.toArray [(0, .string (mkS y0)), (1, .int .i64 y1), (2, .int .i64 y2), (3, .int .i64 y3), (4, .int .i64 y4), (5, .int .i64 y5)])).run Tryz.prog w = .ok (.agg (List.toArray [.string (mkS y0), .int .i64 y1, .int .i64 y2, .int .i64 y3, .int .i64 y4, .int .i64 y5])) w := by intros; kernel_rfl
theorem tB47 : ∀ (y0 : Str) (y1 : Str) (y2 : Str) (w : World), (Instr.build 141 (List.toArray [(0, .string (mkS y0)), (1, .string (mkS y1)), (2, .string (mkS y2))])).run Tryz.prog w = .ok (.agg (List.toArray [.string (mkS y0), .string (mkS y1), .string (mkS y2)])) w := by intros; kernel_rfl
theorem tB48 : ∀ (y0 : Str) (y1 : Str) (y2 : Str) (w : World), (Instr.buildSlice 36 3 (List.toArray [(0, .string (mkS y0)), (1, .string (mkS y1)), (2, .string (mkS y2))])).run Tryz.prog w = .ok (.slice (some ⟨w.heap.size, 0, none⟩) 3 3) (w.alloc (.cells (List.toArray [.string (mkS y0), .string (mkS y1), .string (mkS y2)]) 9)) := by intros; kernel_rfl
theorem tB49 : ∀ (y0 : Str) (y1 : Str) (y2 : Str) (y3 : Str) (y4 : Str) (y5 : Str) (y6 : Str) (y7 : Str) (w : World), (Instr.buildSlice 36 8 (List.toArray [(0, .string (mkS y0)), (1, .string (mkS y1)), (2, .string (mkS y2)), (3, .string (mkS y3)), (4, .string (mkS y4)), (5, .string (mkS y5)), (6, .string (mkS y6)), (7, .string (mkS y7))])).run Tryz.prog w = .ok (.slice (some ⟨w.heap.size, 0, none⟩) 8 8) (w.alloc (.cells (List.toArray [.string (mkS y0), .string (mkS y1), .string (mkS y2), .string (mkS y3), .string (mkS y4), .string (mkS y5), .string (mkS y6), .string (mkS y7)]) 9)) := by intros; kernel_rfl
end Go.Proofs.YtoaoofobidhfjaaGreatDoor
