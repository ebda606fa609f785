/- The engine: truth values compared. -/
import Derived.Test.YtmnhfpcbfdgbcaaDoorEngP
import Derived.Laws.Small
namespace Go.Proofs.YtmnhfpcbfdgbcaaDoor.Eng
set_option linter.unusedVariables false
set_option linter.unusedSimpArgs false
open Go.RowKit
section
variable {P : Program} {e : Env} {s : St} {dst : Option Tmp} {ty : TypeId} {pos : String} {after : Array Edge} {guard : Option (Nat × Bool)} {xt yt : TypeId} {x y : Operand} {a b : Bool}
theorem opD_beql (ht : P.underlying xt = some .bool) (hx : e.ev x = pl (.bool a)) (hy : e.ev y = pl (.bool b)) : OpD P ⟨dst, .binOp .eql xt x y yt, ty, pos, after, guard⟩ e s (pl (.bool (a == b))) s :=
  opD_bin hx hy (fun w => by simp [go_sem]) (fun w => by simp [binOp, run_equal_bool w xt a b ht])
theorem opD_bneq (ht : P.underlying xt = some .bool) (hx : e.ev x = pl (.bool a)) (hy : e.ev y = pl (.bool b)) : OpD P ⟨dst, .binOp .neq xt x y yt, ty, pos, after, guard⟩ e s (pl (.bool (a != b))) s :=
  opD_bin hx hy (fun w => by simp [go_sem]) (fun w => by simp [binOp, run_equal_bool w xt a b ht, bne])
end
end Go.Proofs.YtmnhfpcbfdgbcaaDoor.Eng
