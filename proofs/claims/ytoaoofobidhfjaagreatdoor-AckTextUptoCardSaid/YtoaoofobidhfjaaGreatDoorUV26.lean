/- A message whose last segment has one field more (plain). -/
import Derived.Test.YtoaoofobidhfjaaGreatDoorUVT
set_option linter.unusedSimpArgs false
set_option linter.unusedVariables false
namespace Go.V
open Go.RowKit
theorem bkM_snoc (cs : List Seg) (g : Seg) : bkM (cs ++ [g]) = bkM cs + bkG g := by unfold bkM bkL; simp; omega
theorem bkF_one (v : Str) : bkF (one1' v) = v.length + 4 := by simp [bkF, bkL, bkR, bkC, bkS, one1']
end Go.V
