/- LawProtestHolds, part 12 of 39: my texts (walks of the program over sparse frames, plain laws, and texts that print.py printed for this seat), without what the statement does not reach. -/
import Derived.Test.YtlhkeohcickiaaaGreatDoorKH11
import Derived.Test.YtlhkeohcickiaaaGreatDoorKH8
set_option linter.all false
namespace Go.Proofs.YtlhkeohcickiaaaGreatDoorW.PrintWords
open Go.RowKit
end Go.Proofs.YtlhkeohcickiaaaGreatDoorW.PrintWords
namespace Go.Proofs.YtlhkeohcickiaaaGreatDoorW.PrintLast
section
variable {ops : Array Oper} {a : Act} {o og : Oper} {g : Nat} {t : Tmp} {u : Bool}
theorem eval_of {v : Value} (h : a.tmps[t]? = some v) : a.eval (.tmp t) = v := by simp [Act.eval, h]
end
end Go.Proofs.YtlhkeohcickiaaaGreatDoorW.PrintLast

