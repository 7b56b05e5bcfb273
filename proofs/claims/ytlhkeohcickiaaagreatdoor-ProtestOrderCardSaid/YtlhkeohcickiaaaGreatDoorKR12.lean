/- Part 12 of 31 of the proof of ProtestOrder: lemmas, without conditions. -/
import Derived.Test.YtlhkeohcickiaaaGreatDoorKR11
import Derived.Test.YtlhkeohcickiaaaGreatDoorKR8
set_option linter.all false
namespace Go.Proofs.YtlhkeohcickiaaaGreatDoorW.PrintWords
open Go.RowKit
end Go.Proofs.YtlhkeohcickiaaaGreatDoorW.PrintWords
namespace Go.Proofs.YtlhkeohcickiaaaGreatDoorW.PrintLast
section
variable {ops : Array Oper} {a : Act} {o og : Oper} {g : Nat} {t : Tmp} {u : Bool}
theorem eval_of {v : Value} (h : a.tmps[t]? = some v) : a.eval (.tmp t) = v := by simp [Act.eval, h]
end
end Go.Proofs.YtlhkeohcickiaaaGreatDoorW.PrintLast

