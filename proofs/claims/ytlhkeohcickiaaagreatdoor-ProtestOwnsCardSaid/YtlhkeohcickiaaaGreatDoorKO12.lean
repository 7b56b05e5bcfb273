/- LawProtestOwns, part 12 of 40: my texts (walks of the program over sparse frames, plain laws, and texts that print.py printed for this seat), without what the statement does not reach. -/
import Derived.Test.YtlhkeohcickiaaaGreatDoorKO1
set_option linter.all false
namespace Go.Proofs.YtlhkeohcickiaaaGreatDoorW.PrintWords
open Go.RowKit
section
section
variable {P : Program} {ops : Array Oper} {rest : List Oper} {o : Oper} {a : Act} {Q : Exit → Act → World → Prop} {W : World}
theorem gate_guard (hw : Region.wanted o (yielded ops a.tmps) = true) (h : wpList P ops Q ({ o with guard := none } :: rest) a W) : wpList P ops Q (o :: rest) a W := by
 have h1 : Region.wanted { o with guard := none } (yielded ops a.tmps) = true := rfl
 unfold wpList at h ⊢
 rw [if_pos h1] at h
 rw [if_pos hw]
 exact h
end
end
end Go.Proofs.YtlhkeohcickiaaaGreatDoorW.PrintWords

