/- LawProtestHolds, part 32 of 39: my texts (walks of the program over sparse frames, plain laws, and texts that print.py printed for this seat), without what the statement does not reach. -/
import Derived.Test.YtlhkeohcickiaaaGreatDoorKH28
import Derived.Test.YtlhkeohcickiaaaGreatDoorKH31
set_option linter.all false
namespace Go.Proofs.YtlhkeohcickiaaaGreatDoor.E
open Go.RowKit Go.Proofs.YtlhkeohcickiaaaGreatDoor.H Go.Proofs.YtlhkeohcickiaaaGreatDoorW.PrintWords Go.Proofs.YtlhkeohcickiaaaGreatDoorW.PrintLast Go.Proofs.YtlhkeohcickiaaaGreatDoorW.PrintMore
section
open Prot (heldOf derive proveL at_)
def askedErr (l0 : List S25) (ed : Int) (facts : List ByteArray) : Int := match askedOf l0 ed facts with
 | .error p => p.2
 | .ok _ => 0
theorem asked_err {l0 : List S25} {ed : Int} {facts : List ByteArray} {p : Int × Int} (h : askedOf l0 ed facts = .error p) : p.2 ≠ 0 := by
 unfold askedOf at h
 split at h
 ·rename_i q hb
  cases h
  exact bound_err hb
 ·split at h
  ·rename_i q hm
   cases h
   unfold madeOf at hm
   split at hm
   ·cases hm
   ·cases hm; decide
  ·cases h
theorem asked_ok {l0 : List S25} {ed : Int} {facts : List ByteArray} {m : List (ByteArray × Nat)} {o : List Nat} (h : askedOf l0 ed facts = .ok (m, o)) : boundOf l0 = .ok m ∧ madeOf m l0 ed facts = .ok o := by
 unfold askedOf at h
 split at h
 ·cases h
 ·rename_i m' hb
  split at h
  ·cases h
  ·rename_i o' hm
   cases h
   exact ⟨hb, hm⟩
theorem made_fine {l0 : List S25} {ed : Int} {facts : List ByteArray} {m : List (ByteArray × Nat)} {o : List Nat} (h : madeOf m l0 ed facts = .ok o) : risingB facts 64 = true ∧ o = Prot.made (Prot.get m) (topOf m) ed (l0.map toC) facts := by
 unfold madeOf at h
 split at h
 ·rename_i hc
  simp only [Bool.and_eq_true] at hc
  cases h
  exact ⟨hc.2, rfl⟩
 ·cases h
theorem rising_len {l : List ByteArray} {n : Int} (h : risingB l n = true) : (l.length : Int) ≤ n := by
 unfold risingB at h
 simp only [Bool.and_eq_true, decide_eq_true_eq] at h
 exact h.2
theorem asked_eq (l0 : List S25) (ed : Int) (facts : List ByteArray) (k : Nat) (hf : facts.length ≤ 9223372036854775807) (hk : facts.length + 40 < k) : besomref09_asked.f k l0 ed facts = some (askedErr l0 ed facts) := by
 unfold besomref09_asked.f besomref09_Check.f besomref09_Facts.f askedErr askedOf
 simp only [Option.bind_some]
 cases hb : boundOf l0 with
 | error p =>
  have := bound_err hb
  simp [errOf, this]
 | ok m =>
  simp only [errOf, Option.getD_none, ↓reduceIte, in_eq, names_eq _ _ _ hf hk, Option.bind_some]
  unfold madeOf
  cases h1 : (decide (0 ≤ ed) && decide (ed ≤ 1000)) <;> cases h2 : risingB facts 64 <;> simp
theorem make1_eq {l0 : List S25} {ed : Int} {facts : List ByteArray} {m : List (ByteArray × Nat)} {o : List Nat} (h : askedOf l0 ed facts = .ok (m, o)) : besomref09_make1.f l0 ed facts = some (heldOf (l0.map toC) facts o, ints o) := by
 obtain ⟨hb, hm⟩ := asked_ok h
 obtain ⟨hr, ho⟩ := made_fine hm
 have hok := okBook hb
 have hl := rising_len hr
 unfold besomref09_make1.f
 rw [if_pos ⟨hok.len, by omega⟩, hok.lev]
 have e : refOrder m l0 ed facts = o := by
  rw [ho]
  unfold refOrder
  have h2 := (Prot.levels_fits hok.lev).2
  have e1 := Prot.made_top (ed := ed) (t1 := topOf m) (t2 := topOf m + l0.length) facts hok.fit hok.top (by omega)
  have e2 := Prot.made_top (ed := ed) (t1 := l0.length) (t2 := topOf m + l0.length) facts hok.fit (fun c _ => by have := h2 c.thn; simpa using this) (by omega)
  rw [e1, e2]
 simp only [e]
theorem held_length {l0 : List S25} {ed : Int} {facts : List ByteArray} {m : List (ByteArray × Nat)} {o : List Nat} (h : askedOf l0 ed facts = .ok (m, o)) : (heldOf (l0.map toC) facts o).length ≤ 128 ∧ o.length ≤ 64 := by
 obtain ⟨hb, hm⟩ := asked_ok h
 have hok := okBook hb
 have h1 := (made_good hok hm).1.length_le
 have h2 := rising_len (made_fine hm).1
 have h3 := hok.len
 simp only [List.length_map] at h1
 refine ⟨?_, by omega⟩
 rw [held_len]
 omega
theorem rd_nat (l : List Int) (j : Nat) (h : j < l.length) : rd l (j : Int) = l[j] := by
 simp [rd, List.getD_eq_getElem?_getD, List.getElem?_eq_getElem h]
end
end Go.Proofs.YtlhkeohcickiaaaGreatDoor.E

