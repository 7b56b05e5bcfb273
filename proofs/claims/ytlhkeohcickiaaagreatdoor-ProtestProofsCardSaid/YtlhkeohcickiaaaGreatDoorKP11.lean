/- Part 11 of 36 of the proof of ProtestProofs: lemmas, without conditions. -/
import Derived.Test.YtlhkeohcickiaaaGreatDoorKP10
import Derived.Test.YtlhkeohcickiaaaGreatDoorKP7
set_option linter.all false
namespace Go.Proofs.YtlhkeohcickiaaaGreatDoorW.PrintWords
open Go.RowKit
end Go.Proofs.YtlhkeohcickiaaaGreatDoorW.PrintWords
namespace Go.Proofs.YtlhkeohcickiaaaGreatDoorW.PrintLast
section
variable {ops : Array Oper} {a : Act} {o og : Oper} {g : Nat} {t : Tmp} {u : Bool}
theorem eval_of {v : Value} (h : a.tmps[t]? = some v) : a.eval (.tmp t) = v := by simp [Act.eval, h]
end
end Go.Proofs.YtlhkeohcickiaaaGreatDoorW.PrintLast

