/- Part 29 of 31 of the proof of ProtestOrder: lemmas, without conditions. -/
import Derived.Test.YtlhkeohcickiaaaGreatDoorKR24
import Derived.Test.YtlhkeohcickiaaaGreatDoorKR28
set_option linter.all false
namespace Go.Proofs.YtlhkeohcickiaaaGreatDoor.E
open Go.RowKit Go.Proofs.YtlhkeohcickiaaaGreatDoor.H Go.Proofs.YtlhkeohcickiaaaGreatDoorW.PrintWords Go.Proofs.YtlhkeohcickiaaaGreatDoorW.PrintLast Go.Proofs.YtlhkeohcickiaaaGreatDoorW.PrintMore
section
open Prot (heldOf derive proveL at_)
theorem asked_err {l0 : List S25} {ed : Int} {facts : List ByteArray} {p : Int × Int} (h : askedOf l0 ed facts = .error p) : p.2 ≠ 0 := by
 unfold askedOf at h
 split at h
 ·rename_i q hb
  cases h
  exact bound_err hb
 ·split at h
  ·rename_i q hm
   cases h
   unfold madeOf at hm
   split at hm
   ·cases hm
   ·cases hm; decide
  ·cases h
theorem asked_ok {l0 : List S25} {ed : Int} {facts : List ByteArray} {m : List (ByteArray × Nat)} {o : List Nat} (h : askedOf l0 ed facts = .ok (m, o)) : boundOf l0 = .ok m ∧ madeOf m l0 ed facts = .ok o := by
 unfold askedOf at h
 split at h
 ·cases h
 ·rename_i m' hb
  split at h
  ·cases h
  ·rename_i o' hm
   cases h
   exact ⟨hb, hm⟩
theorem made_fine {l0 : List S25} {ed : Int} {facts : List ByteArray} {m : List (ByteArray × Nat)} {o : List Nat} (h : madeOf m l0 ed facts = .ok o) : risingB facts 64 = true ∧ o = Prot.made (Prot.get m) (topOf m) ed (l0.map toC) facts := by
 unfold madeOf at h
 split at h
 ·rename_i hc
  simp only [Bool.and_eq_true] at hc
  cases h
  exact ⟨hc.2, rfl⟩
 ·cases h
theorem rising_len {l : List ByteArray} {n : Int} (h : risingB l n = true) : (l.length : Int) ≤ n := by
 unfold risingB at h
 simp only [Bool.and_eq_true, decide_eq_true_eq] at h
 exact h.2
theorem held_length {l0 : List S25} {ed : Int} {facts : List ByteArray} {m : List (ByteArray × Nat)} {o : List Nat} (h : askedOf l0 ed facts = .ok (m, o)) : (heldOf (l0.map toC) facts o).length ≤ 128 ∧ o.length ≤ 64 := by
 obtain ⟨hb, hm⟩ := asked_ok h
 have hok := okBook hb
 have h1 := (made_good hok hm).1.length_le
 have h2 := rising_len (made_fine hm).1
 have h3 := hok.len
 simp only [List.length_map] at h1
 refine ⟨?_, by omega⟩
 rw [held_len]
 omega
theorem rd_nat (l : List Int) (j : Nat) (h : j < l.length) : rd l (j : Int) = l[j] := by
 simp [rd, List.getD_eq_getElem?_getD, List.getElem?_eq_getElem h]
end
end Go.Proofs.YtlhkeohcickiaaaGreatDoor.E

