/- LawProtestBooks, part 8 of 35: my texts (walks of the program over sparse frames, plain laws, and texts that print.py printed for this seat), without what the statement does not reach. -/
import Derived.Test.YtlhkeohcickiaaaGreatDoorKB7
import Derived.Test.YtlhkeohcickiaaaGreatDoorKB4
import Derived.Test.YtlhkeohcickiaaaGreatDoorKB2
set_option linter.all false
namespace Go.Proofs.YtlhkeohcickiaaaGreatDoorW.PrintWords
open Go.RowKit
section
namespace Kd
section
variable {α : Type} {d : Kd α} {e base n cc g : Nat} {ok ok' okp S : Nat → Prop} {w w1 W W1 : World} {A : Option Addr} {u v v1 : Value} {xs : List α} {x : α} {c : List Value}
def N {α : Type} (d : Kd α) (e : Nat) (w : World) (base : Nat) (ok : Nat → Prop) (v : Value) (xs : List α) : Prop :=
 (∀ k, v.ownBlock = some k → ok k) ∧ ∃ rows : List (List Value), rows.length = xs.length ∧ (raw d.sz).R e w base (fun k => some k = v.ownBlock) v rows ∧ ∀ (j : Nat) (x : α) (c : List Value), xs[j]? = some x → rows[j]? = some c → FK d w (fun k => ok k ∧ some k ≠ v.ownBlock) x c
end
end Kd
end
end Go.Proofs.YtlhkeohcickiaaaGreatDoorW.PrintWords

