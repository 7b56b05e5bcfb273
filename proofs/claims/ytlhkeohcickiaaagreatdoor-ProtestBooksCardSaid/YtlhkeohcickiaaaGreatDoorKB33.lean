/- LawProtestBooks, part 33 of 35: my texts (walks of the program over sparse frames, plain laws, and texts that print.py printed for this seat), without what the statement does not reach. -/
import Derived.Test.YtlhkeohcickiaaaGreatDoorKB15
import Derived.Test.YtlhkeohcickiaaaGreatDoorKB17
import Derived.Test.YtlhkeohcickiaaaGreatDoorKB18
import Derived.Test.YtlhkeohcickiaaaGreatDoorKB30
import Derived.Test.YtlhkeohcickiaaaGreatDoorKB32
import Derived.Test.YtlhkeohcickiaaaGreatDoorKB27
set_option linter.all false
namespace Go.Proofs.YtlhkeohcickiaaaGreatDoor.E
open Go.RowKit Go.Proofs.YtlhkeohcickiaaaGreatDoorW.PrintWords Go.Proofs.YtlhkeohcickiaaaGreatDoorW.PrintLast Go.Proofs.YtlhkeohcickiaaaGreatDoorW.PrintMore
section
attribute [local go_sem] max2_int min2_int max_two min_two max_three min_three max_four min_four   -- for this text's walks alone
attribute [local go_sem] Go.Proofs.YtlhkeohcickiaaaGreatDoor.H.leq_str Go.Proofs.YtlhkeohcickiaaaGreatDoor.H.gtr_str Go.Proofs.YtlhkeohcickiaaaGreatDoor.H.geq_str
attribute [local go_sem] field80_0 field80_1
end
end Go.Proofs.YtlhkeohcickiaaaGreatDoor.E

