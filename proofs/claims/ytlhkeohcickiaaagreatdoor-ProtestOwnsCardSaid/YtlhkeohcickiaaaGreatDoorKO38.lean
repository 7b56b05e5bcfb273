/- Lemmas for ProtestOwns. -/
import Derived.Test.YtlhkeohcickiaaaGreatDoorKO35
import Derived.Test.YtlhkeohcickiaaaGreatDoorKO15
import Derived.Test.YtlhkeohcickiaaaGreatDoorKO18
import Derived.Test.YtlhkeohcickiaaaGreatDoorKO34
import Derived.Test.YtlhkeohcickiaaaGreatDoorKO17
import Derived.Test.YtlhkeohcickiaaaGreatDoorKO19
import Derived.Test.YtlhkeohcickiaaaGreatDoorKO31
import Derived.Test.YtlhkeohcickiaaaGreatDoorKO30
import Derived.Test.YtlhkeohcickiaaaGreatDoorKO33
set_option linter.all false
namespace Go.Proofs.YtlhkeohcickiaaaGreatDoor.E
open Go.RowKit Go.Proofs.YtlhkeohcickiaaaGreatDoor.H Go.Proofs.YtlhkeohcickiaaaGreatDoorW.PrintWords Go.Proofs.YtlhkeohcickiaaaGreatDoorW.PrintLast Go.Proofs.YtlhkeohcickiaaaGreatDoorW.PrintMore
section
open Prot (heldOf derive proveL at_ stepOk)
theorem wrapN {i : Nat} (h : i < 9223372036854775807) : wrap64 ((i : Int) + 1) = ((i + 1 : Nat) : Int) := by rw [wrap64_of (by omega) (by omega)]; omega
end
section
open Prot (heldOf derive proveL at_ stepOk)
theorem great_l1 (l0 : List S25) (l : List ByteArray) (x5 : Int) : ∀ (d i : Nat), i ≤ 100 → 100 - i = d → ∃ b, (∀ k, 2 * d + 4 < k → besomlaw09_great.l1 k l0 l x5 (i : Int) = some b) ∧ (b = false → l0.length ≤ 70 ∧ l.length ≤ 70) := by
 have fin : ∃ b, (∀ k i, 0 < k → besomlaw09_great.j3 k l0 l x5 i false = some b) ∧ (b = false → l0.length ≤ 70 ∧ l.length ≤ 70) := by
  by_cases h1 : (l0.length : Int) > 70
  ·refine ⟨true, fun k i hk => ?_, by simp⟩
   obtain ⟨k, rfl⟩ : ∃ m, k = m + 1 := ⟨k - 1, by omega⟩
   simp only [besomlaw09_great.j3]
   rw [if_neg (by decide), if_pos h1]
  ·by_cases h2 : (l.length : Int) > 70
   ·refine ⟨true, fun k i hk => ?_, by simp⟩
    obtain ⟨k, rfl⟩ : ∃ m, k = m + 1 := ⟨k - 1, by omega⟩
    simp only [besomlaw09_great.j3]
    rw [if_neg (by decide), if_neg h1, if_pos h2]
   ·refine ⟨decide (x5 > 300), fun k i hk => ?_, fun _ => by omega⟩
    obtain ⟨k, rfl⟩ : ∃ m, k = m + 1 := ⟨k - 1, by omega⟩
    simp only [besomlaw09_great.j3]
    rw [if_neg (by decide), if_neg h1, if_neg h2]
 obtain ⟨b0, f1, f2⟩ := fin
 intro d
 induction d with
 | zero =>
  intro i h1 h2
  refine ⟨b0, fun k hk => ?_, f2⟩
  obtain ⟨k, rfl⟩ : ∃ m, k = m + 1 := ⟨k - 1, by omega⟩
  simp only [besomlaw09_great.l1]
  split
  ·rw [show decide ((i : Int) < 100) = false from decide_eq_false (by omega), f1 k _ (by omega)]
  ·rw [f1 k _ (by omega)]
 | succ d ih =>
  intro i h1 h2
  by_cases hi : i < l.length
  ·by_cases hz : ((rdOf ByteArray.empty l (i : Int)).size : Int) > 100
   ·refine ⟨true, fun k hk => ?_, by simp⟩
    obtain ⟨k, rfl⟩ : ∃ m, k = m + 2 := ⟨k - 2, by omega⟩
    simp only [besomlaw09_great.l1]
    rw [if_pos (by omega), show decide ((i : Int) < 100) = true from decide_eq_true (by omega)]
    simp only [besomlaw09_great.j3]
    simp only [↓reduceIte]
    rw [if_pos (by omega), if_pos (by omega), if_pos hz]
   ·obtain ⟨b, g1, g2⟩ := ih (i + 1) (by omega) (by omega)
    refine ⟨b, fun k hk => ?_, g2⟩
    obtain ⟨k, rfl⟩ : ∃ m, k = m + 2 := ⟨k - 2, by omega⟩
    simp only [besomlaw09_great.l1]
    rw [if_pos (by omega), show decide ((i : Int) < 100) = true from decide_eq_true (by omega)]
    simp only [besomlaw09_great.j3]
    simp only [↓reduceIte]
    rw [if_pos (by omega), if_pos (by omega), if_neg hz, wrapN (by omega), g1 k (by omega)]
  ·refine ⟨b0, fun k hk => ?_, f2⟩
   obtain ⟨k, rfl⟩ : ∃ m, k = m + 1 := ⟨k - 1, by omega⟩
   simp only [besomlaw09_great.l1]
   rw [if_neg (by omega), f1 k _ (by omega)]
theorem great_l0 (l0 : List S25) (l : List ByteArray) : ∀ (d i : Nat) (x5 : Int), i ≤ 100 → 100 - i = d → ∃ b, (∀ k, d + 300 < k → besomlaw09_great.l0 k l0 l x5 (i : Int) = some b) ∧ (b = false → l0.length ≤ 70 ∧ l.length ≤ 70) := by
 have fin : ∀ x5 : Int, ∃ b, (∀ k, 250 < k → besomlaw09_great.j1 k l0 l x5 = some b) ∧ (b = false → l0.length ≤ 70 ∧ l.length ≤ 70) := fun x5 => by
  obtain ⟨b, g1, g2⟩ := great_l1 l0 l x5 100 0 (by omega) (by omega)
  refine ⟨b, fun k hk => ?_, g2⟩
  obtain ⟨k, rfl⟩ : ∃ m, k = m + 1 := ⟨k - 1, by omega⟩
  simp only [besomlaw09_great.j1]
  exact g1 k (by omega)
 intro d
 induction d with
 | zero =>
  intro i x5 h1 h2
  obtain ⟨b0, f1, f2⟩ := fin x5
  refine ⟨b0, fun k hk => ?_, f2⟩
  obtain ⟨k, rfl⟩ : ∃ m, k = m + 1 := ⟨k - 1, by omega⟩
  simp only [besomlaw09_great.l0]
  split
  ·rw [if_neg (by omega), f1 k (by omega)]
  ·rw [f1 k (by omega)]
 | succ d ih =>
  intro i x5 h1 h2
  by_cases hi : (i : Int) < (l0.length : Int)
  ·obtain ⟨b, g1, g2⟩ := ih (i + 1) (wrap64 ((wrap64 ((wrap64 (x5 + (((rd_T25 l0 (i : Int)).f3).length : Int))) + (((rd_T25 l0 (i : Int)).f4).length : Int))) + (wrap64 (Int.tdiv (wrap64 ((((rd_T25 l0 (i : Int)).f0).size : Int) + (((rd_T25 l0 (i : Int)).f5).size : Int))) 50)))) (by omega) (by omega)
   refine ⟨b, fun k hk => ?_, g2⟩
   obtain ⟨k, rfl⟩ : ∃ m, k = m + 1 := ⟨k - 1, by omega⟩
   simp only [besomlaw09_great.l0]
   rw [if_pos hi, if_pos (by omega), if_pos (by omega), wrapN (by omega), g1 k (by omega)]
  ·obtain ⟨b0, f1, f2⟩ := fin x5
   refine ⟨b0, fun k hk => ?_, f2⟩
   obtain ⟨k, rfl⟩ : ∃ m, k = m + 1 := ⟨k - 1, by omega⟩
   simp only [besomlaw09_great.l0]
   rw [if_neg hi, f1 k (by omega)]
theorem great_ex (l0 : List S25) (l : List ByteArray) : ∃ b, (∀ k, 400 < k → besomlaw09_great.f k l0 l = some b) ∧ (b = false → l0.length ≤ 70 ∧ l.length ≤ 70) := by
 obtain ⟨b, g1, g2⟩ := great_l0 l0 l 100 0 (l.length : Int) (by omega) (by omega)
 exact ⟨b, fun k hk => g1 k (by omega), g2⟩
end
end Go.Proofs.YtlhkeohcickiaaaGreatDoor.E

