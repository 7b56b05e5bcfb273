/- LawProtestSound, part 35 of 37: my texts (walks of the program over sparse frames, plain laws, and texts that print.py printed for this seat), without what the statement does not reach. -/
import Derived.Test.YtlhkeohcickiaaaGreatDoorKS30
import Derived.Test.YtlhkeohcickiaaaGreatDoorKS34
import Derived.Test.YtlhkeohcickiaaaGreatDoorKS31
import Derived.Test.YtlhkeohcickiaaaGreatDoorKS28
set_option linter.all false
namespace Go.Proofs.YtlhkeohcickiaaaGreatDoor.E
open Go.RowKit Go.Proofs.YtlhkeohcickiaaaGreatDoor.H Go.Proofs.YtlhkeohcickiaaaGreatDoorW.PrintWords Go.Proofs.YtlhkeohcickiaaaGreatDoorW.PrintLast Go.Proofs.YtlhkeohcickiaaaGreatDoorW.PrintMore
section
open Prot (heldOf derive proveL at_ stepOk)
theorem wrapN {i : Nat} (h : i < 9223372036854775807) : wrap64 ((i : Int) + 1) = ((i + 1 : Nat) : Int) := by rw [wrap64_of (by omega) (by omega)]; omega
end
section
open Prot (heldOf derive proveL at_ stepOk)
theorem great_l1 (l0 : List S25) (l : List ByteArray) (x5 : Int) : ∀ (d i : Nat), i ≤ 100 → 100 - i = d → ∃ b, (∀ k, 2 * d + 4 < k → besomlaw09_great.l1 k l0 l x5 (i : Int) = some b) ∧ (b = false → l0.length ≤ 70 ∧ l.length ≤ 70) := by
 have fin : ∃ b, (∀ k i, 0 < k → besomlaw09_great.j3 k l0 l x5 i false = some b) ∧ (b = false → l0.length ≤ 70 ∧ l.length ≤ 70) := by
  by_cases h1 : (l0.length : Int) > 70
  ·refine ⟨true, fun k i hk => ?_, by simp⟩
   obtain ⟨k, rfl⟩ : ∃ m, k = m + 1 := ⟨k - 1, by omega⟩
   simp only [besomlaw09_great.j3]
   rw [if_neg (by decide), if_pos h1]
  ·by_cases h2 : (l.length : Int) > 70
   ·refine ⟨true, fun k i hk => ?_, by simp⟩
    obtain ⟨k, rfl⟩ : ∃ m, k = m + 1 := ⟨k - 1, by omega⟩
    simp only [besomlaw09_great.j3]
    rw [if_neg (by decide), if_neg h1, if_pos h2]
   ·refine ⟨decide (x5 > 300), fun k i hk => ?_, fun _ => by omega⟩
    obtain ⟨k, rfl⟩ : ∃ m, k = m + 1 := ⟨k - 1, by omega⟩
    simp only [besomlaw09_great.j3]
    rw [if_neg (by decide), if_neg h1, if_neg h2]
 obtain ⟨b0, f1, f2⟩ := fin
 intro d
 induction d with
 | zero =>
  intro i h1 h2
  refine ⟨b0, fun k hk => ?_, f2⟩
  obtain ⟨k, rfl⟩ : ∃ m, k = m + 1 := ⟨k - 1, by omega⟩
  simp only [besomlaw09_great.l1]
  split
  ·rw [show decide ((i : Int) < 100) = false from decide_eq_false (by omega), f1 k _ (by omega)]
  ·rw [f1 k _ (by omega)]
 | succ d ih =>
  intro i h1 h2
  by_cases hi : i < l.length
  ·by_cases hz : ((rdOf ByteArray.empty l (i : Int)).size : Int) > 100
   ·refine ⟨true, fun k hk => ?_, by simp⟩
    obtain ⟨k, rfl⟩ : ∃ m, k = m + 2 := ⟨k - 2, by omega⟩
    simp only [besomlaw09_great.l1]
    rw [if_pos (by omega), show decide ((i : Int) < 100) = true from decide_eq_true (by omega)]
    simp only [besomlaw09_great.j3]
    simp only [↓reduceIte]
    rw [if_pos (by omega), if_pos (by omega), if_pos hz]
   ·obtain ⟨b, g1, g2⟩ := ih (i + 1) (by omega) (by omega)
    refine ⟨b, fun k hk => ?_, g2⟩
    obtain ⟨k, rfl⟩ : ∃ m, k = m + 2 := ⟨k - 2, by omega⟩
    simp only [besomlaw09_great.l1]
    rw [if_pos (by omega), show decide ((i : Int) < 100) = true from decide_eq_true (by omega)]
    simp only [besomlaw09_great.j3]
    simp only [↓reduceIte]
    rw [if_pos (by omega), if_pos (by omega), if_neg hz, wrapN (by omega), g1 k (by omega)]
  ·refine ⟨b0, fun k hk => ?_, f2⟩
   obtain ⟨k, rfl⟩ : ∃ m, k = m + 1 := ⟨k - 1, by omega⟩
   simp only [besomlaw09_great.l1]
   rw [if_neg (by omega), f1 k _ (by omega)]
theorem great_l0 (l0 : List S25) (l : List ByteArray) : ∀ (d i : Nat) (x5 : Int), i ≤ 100 → 100 - i = d → ∃ b, (∀ k, d + 300 < k → besomlaw09_great.l0 k l0 l x5 (i : Int) = some b) ∧ (b = false → l0.length ≤ 70 ∧ l.length ≤ 70) := by
 have fin : ∀ x5 : Int, ∃ b, (∀ k, 250 < k → besomlaw09_great.j1 k l0 l x5 = some b) ∧ (b = false → l0.length ≤ 70 ∧ l.length ≤ 70) := fun x5 => by
  obtain ⟨b, g1, g2⟩ := great_l1 l0 l x5 100 0 (by omega) (by omega)
  refine ⟨b, fun k hk => ?_, g2⟩
  obtain ⟨k, rfl⟩ : ∃ m, k = m + 1 := ⟨k - 1, by omega⟩
  simp only [besomlaw09_great.j1]
  exact g1 k (by omega)
 intro d
 induction d with
 | zero =>
  intro i x5 h1 h2
  obtain ⟨b0, f1, f2⟩ := fin x5
  refine ⟨b0, fun k hk => ?_, f2⟩
  obtain ⟨k, rfl⟩ : ∃ m, k = m + 1 := ⟨k - 1, by omega⟩
  simp only [besomlaw09_great.l0]
  split
  ·rw [if_neg (by omega), f1 k (by omega)]
  ·rw [f1 k (by omega)]
 | succ d ih =>
  intro i x5 h1 h2
  by_cases hi : (i : Int) < (l0.length : Int)
  ·obtain ⟨b, g1, g2⟩ := ih (i + 1) (wrap64 ((wrap64 ((wrap64 (x5 + (((rd_T25 l0 (i : Int)).f3).length : Int))) + (((rd_T25 l0 (i : Int)).f4).length : Int))) + (wrap64 (Int.tdiv (wrap64 ((((rd_T25 l0 (i : Int)).f0).size : Int) + (((rd_T25 l0 (i : Int)).f5).size : Int))) 50)))) (by omega) (by omega)
   refine ⟨b, fun k hk => ?_, g2⟩
   obtain ⟨k, rfl⟩ : ∃ m, k = m + 1 := ⟨k - 1, by omega⟩
   simp only [besomlaw09_great.l0]
   rw [if_pos hi, if_pos (by omega), if_pos (by omega), wrapN (by omega), g1 k (by omega)]
  ·obtain ⟨b0, f1, f2⟩ := fin x5
   refine ⟨b0, fun k hk => ?_, f2⟩
   obtain ⟨k, rfl⟩ : ∃ m, k = m + 1 := ⟨k - 1, by omega⟩
   simp only [besomlaw09_great.l0]
   rw [if_neg hi, f1 k (by omega)]
theorem great_ex (l0 : List S25) (l : List ByteArray) : ∃ b, (∀ k, 400 < k → besomlaw09_great.f k l0 l = some b) ∧ (b = false → l0.length ≤ 70 ∧ l.length ≤ 70) := by
 obtain ⟨b, g1, g2⟩ := great_l0 l0 l 100 0 (l.length : Int) (by omega) (by omega)
 exact ⟨b, fun k hk => g1 k (by omega), g2⟩
end
section
section
variable {P : Program} {N : Nat} {ds : List Deferred} {Q : Exit → Act → World → Prop} {Pn : List PanicEntry → World → Prop} {ops : List Oper} {l : Slots} {w : World} {K : Slots → World → Prop}
theorem fin (hK : ∀ l' w', (∀ a', Fr N ds l' a' → Q .normal a' w') → K l' w') (l2 : Slots) (hs : Sub l l2) (h : ∀ a', Fr N ds l2 a' → Q .normal a' w) : OpsK P N Pn ops [] l w K := hK _ _ fun a' hf => h a' (hf.sub hs)
end
theorem bt {A B C : World} (h : Below A.heap.size A B) (k : Below B.heap.size B C) : Below A.heap.size A C := below_then h h.size k
theorem bd {A B C : World} (h : Below A.heap.size A B) (k : Drawn0 B C) : Below A.heap.size A C := below_then h h.size k.below
theorem great_call (A0 : Option Addr) (c0 : Nat) (l0 : List S25) (A1 : Option Addr) (c1 : Nat) (l1 : List ByteArray) (w : World) (hr0 : Kd.C k25 w A0 l0.length l0) (hc0 : l0.length ≤ c0) (hr1 : Kd.C Kd.string w A1 l1.length l1) (hc1 : l1.length ≤ c1) :
  Calls Tryz.prog 10 #[.slice A0 l0.length c0, .slice A1 l1.length c1] w fun e w' => ∃ b, e = .returned (.bool b) ∧ (b = false → l0.length ≤ 70 ∧ l1.length ≤ 70) ∧ Below w.heap.size w w' := by
 obtain ⟨b, g1, g2⟩ := great_ex l0 l1
 exact (besomlaw09_great.calls 401 A0 c0 l0 A1 c1 l1 b w hr0 hc0 hr1 hc1 (g1 401 (by omega))).mono fun e w' ⟨h1, h2⟩ => ⟨b, h1, g2, h2.below⟩
end
end Go.Proofs.YtlhkeohcickiaaaGreatDoor.E

