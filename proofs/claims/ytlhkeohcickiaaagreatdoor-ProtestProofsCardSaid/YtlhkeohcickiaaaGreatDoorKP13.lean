/- Part 13 of 36 of the proof of ProtestProofs: lemmas, without conditions. -/
import Derived.WalkKit
set_option linter.all false
namespace Go.Proofs.YtlhkeohcickiaaaGreatDoor.H
theorem bytesLess_asymm : ∀ a b : List UInt8, (Op.bytesLess a b || a == b) = !(Op.bytesLess b a)
 | [], [] => rfl
 | [], _ :: _ => rfl
 | _ :: _, [] => rfl
 | x :: a, y :: b => by
  have ih := bytesLess_asymm a b
  by_cases h1 : x < y
  ·have h2 : ¬ y < x := UInt8.lt_asymm h1
   have h3 : ¬ y = x := by rintro rfl; exact absurd h1 (UInt8.lt_irrefl _)
   have h4 : ¬ x = y := fun e => h3 e.symm
   simp [Op.bytesLess, h1, h2, h3]
  ·by_cases h2 : x = y
   ·subst h2
    simp only [Op.bytesLess, UInt8.lt_irrefl, decide_false, Bool.false_or, BEq.rfl, Bool.true_and]
    rw [← ih]
    congr 1
    by_cases h : a = b
    ·subst h; simp
    ·have : ¬ (x :: a) = x :: b := fun e => h (by injection e)
     simp [h]
   ·have h3 : y < x := by
     rcases UInt8.lt_or_lt_of_ne h2 with h | h
     ·exact absurd h h1
     ·exact h
    simp [Op.bytesLess, h1, h2, h3]
theorem leq_str (t : TypeId) (a b : ByteArray) : binOp .leq t (.string a) (.string b) = pure (.bool !(Op.bytesLess b.toList a.toList)) := by simp [binOp, Op.stringOp, bytesLess_asymm]
theorem gtr_str (t : TypeId) (a b : ByteArray) : binOp .gtr t (.string a) (.string b) = pure (.bool (Op.bytesLess b.toList a.toList)) := by simp [binOp, Op.stringOp, bytesLess_asymm]
theorem geq_str (t : TypeId) (a b : ByteArray) : binOp .geq t (.string a) (.string b) = pure (.bool !(Op.bytesLess a.toList b.toList)) := by simp [binOp, Op.stringOp]
end Go.Proofs.YtlhkeohcickiaaaGreatDoor.H

