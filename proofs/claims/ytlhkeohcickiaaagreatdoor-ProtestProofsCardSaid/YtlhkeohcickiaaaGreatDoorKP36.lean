/- The card of the statement ProtestProofs is proved, without conditions. -/
import Derived.Test.YtlhkeohcickiaaaGreatDoorKP32
import Derived.Test.YtlhkeohcickiaaaGreatDoorKP30
import Derived.Test.YtlhkeohcickiaaaGreatDoorKP35
import Derived.Test.YtlhkeohcickiaaaGreatDoorKP15
import Derived.Test.YtlhkeohcickiaaaGreatDoorKP29
import Derived.Deep.Slices
import Derived.Deep.Strs
import Derived.ChangeSlices
import Derived.DataElems
import Derived.Test.YtlhkeohcickiaaaGreatDoorRows
import Derived.Test.YtlhkeohcickiaaaGreatDoorTie
import Derived.Test.YtlhkeohcickiaaaGreatDoorCards
import Derived.WalkKit
import Derived.ProofKit
import Derived.OpenShut
import Derived.ShutString
import Derived.ChangeOld
import Derived.Below
import Derived.SizedLaws
import Derived.SevenTiedAt
import Derived.LaidMore
import Derived.Lay
import Derived.Stop.Joined
set_option linter.all false
namespace Go.Proofs.YtlhkeohcickiaaaGreatDoor.E
open Go.RowKit Go.Proofs.YtlhkeohcickiaaaGreatDoor.H Go.Proofs.YtlhkeohcickiaaaGreatDoorW.PrintWords Go.Proofs.YtlhkeohcickiaaaGreatDoorW.PrintLast Go.Proofs.YtlhkeohcickiaaaGreatDoorW.PrintMore
section
open Prot (heldOf derive proveL at_)
def askedErr (l0 : List S25) (ed : Int) (facts : List ByteArray) : Int := match askedOf l0 ed facts with
 | .error p => p.2
 | .ok _ => 0
theorem asked_err {l0 : List S25} {ed : Int} {facts : List ByteArray} {p : Int × Int} (h : askedOf l0 ed facts = .error p) : p.2 ≠ 0 := by
 unfold askedOf at h
 split at h
 ·rename_i q hb
  cases h
  exact bound_err hb
 ·split at h
  ·rename_i q hm
   cases h
   unfold madeOf at hm
   split at hm
   ·cases hm
   ·cases hm; decide
  ·cases h
theorem asked_ok {l0 : List S25} {ed : Int} {facts : List ByteArray} {m : List (ByteArray × Nat)} {o : List Nat} (h : askedOf l0 ed facts = .ok (m, o)) : boundOf l0 = .ok m ∧ madeOf m l0 ed facts = .ok o := by
 unfold askedOf at h
 split at h
 ·cases h
 ·rename_i m' hb
  split at h
  ·cases h
  ·rename_i o' hm
   cases h
   exact ⟨hb, hm⟩
theorem made_fine {l0 : List S25} {ed : Int} {facts : List ByteArray} {m : List (ByteArray × Nat)} {o : List Nat} (h : madeOf m l0 ed facts = .ok o) : risingB facts 64 = true ∧ o = Prot.made (Prot.get m) (topOf m) ed (l0.map toC) facts := by
 unfold madeOf at h
 split at h
 ·rename_i hc
  simp only [Bool.and_eq_true] at hc
  cases h
  exact ⟨hc.2, rfl⟩
 ·cases h
theorem rising_len {l : List ByteArray} {n : Int} (h : risingB l n = true) : (l.length : Int) ≤ n := by
 unfold risingB at h
 simp only [Bool.and_eq_true, decide_eq_true_eq] at h
 exact h.2
theorem asked_eq (l0 : List S25) (ed : Int) (facts : List ByteArray) (k : Nat) (hf : facts.length ≤ 9223372036854775807) (hk : facts.length + 40 < k) : besomref09_asked.f k l0 ed facts = some (askedErr l0 ed facts) := by
 unfold besomref09_asked.f besomref09_Check.f besomref09_Facts.f askedErr askedOf
 simp only [Option.bind_some]
 cases hb : boundOf l0 with
 | error p =>
  have := bound_err hb
  simp [errOf, this]
 | ok m =>
  simp only [errOf, Option.getD_none, ↓reduceIte, in_eq, names_eq _ _ _ hf hk, Option.bind_some]
  unfold madeOf
  cases h1 : (decide (0 ≤ ed) && decide (ed ≤ 1000)) <;> cases h2 : risingB facts 64 <;> simp
theorem make1_eq {l0 : List S25} {ed : Int} {facts : List ByteArray} {m : List (ByteArray × Nat)} {o : List Nat} (h : askedOf l0 ed facts = .ok (m, o)) : besomref09_make1.f l0 ed facts = some (heldOf (l0.map toC) facts o, ints o) := by
 obtain ⟨hb, hm⟩ := asked_ok h
 obtain ⟨hr, ho⟩ := made_fine hm
 have hok := okBook hb
 have hl := rising_len hr
 unfold besomref09_make1.f
 rw [if_pos ⟨hok.len, by omega⟩, hok.lev]
 have e : refOrder m l0 ed facts = o := by
  rw [ho]
  unfold refOrder
  have h2 := (Prot.levels_fits hok.lev).2
  have e1 := Prot.made_top (ed := ed) (t1 := topOf m) (t2 := topOf m + l0.length) facts hok.fit hok.top (by omega)
  have e2 := Prot.made_top (ed := ed) (t1 := l0.length) (t2 := topOf m + l0.length) facts hok.fit (fun c _ => by have := h2 c.thn; simpa using this) (by omega)
  rw [e1, e2]
 simp only [e]
theorem held_length {l0 : List S25} {ed : Int} {facts : List ByteArray} {m : List (ByteArray × Nat)} {o : List Nat} (h : askedOf l0 ed facts = .ok (m, o)) : (heldOf (l0.map toC) facts o).length ≤ 128 ∧ o.length ≤ 64 := by
 obtain ⟨hb, hm⟩ := asked_ok h
 have hok := okBook hb
 have h1 := (made_good hok hm).1.length_le
 have h2 := rising_len (made_fine hm).1
 have h3 := hok.len
 simp only [List.length_map] at h1
 refine ⟨?_, by omega⟩
 rw [held_len]
 omega
theorem rd_nat (l : List Int) (j : Nat) (h : j < l.length) : rd l (j : Int) = l[j] := by
 simp [rd, List.getD_eq_getElem?_getD, List.getElem?_eq_getElem h]
theorem indexB_at {n : Nat} {steps : List Int} (h : indexB n steps = true) (j : Nat) (hj : j < steps.length) : 0 ≤ steps[j] ∧ steps[j] < (n : Int) := by
 unfold indexB at h
 rw [List.all_eq_true] at h
 have := h _ (List.getElem_mem hj)
 simp only [Bool.and_eq_true, decide_eq_true_eq] at this
 omega
end
section
open Prot (heldOf derive proveL at_ stepOk)
theorem at_nat (l0 : List S25) (i : Nat) (h : i < l0.length) : at_ (l0.map toC) i = toC (rd_T25 l0 (i : Int)) := at_toC l0 h
theorem wrapN {i : Nat} (h : i < 9223372036854775807) : wrap64 ((i : Int) + 1) = ((i + 1 : Nat) : Int) := by rw [wrap64_of (by omega) (by omega)]; omega
theorem getD_at (l : List ByteArray) (i : Nat) (h : i < l.length) : rdOf ByteArray.empty l (i : Int) = l[i] := by
 rw [rdOf_nat]; simp [List.getD_eq_getElem?_getD, List.getElem?_eq_getElem h]
theorem Pl2 (x0 : List S25) (ed : Int) (x3 : List Int) (x4 : ByteArray) (held ks : List ByteArray) (j : Nat) (c0 : ByteArray) (c1 c2 : Int) (ifs unl : List ByteArray) (c5 : ByteArray) (R : Bool × Int × Int) (K : Nat)
  (hu : unl.length ≤ 9223372036854775807) (hh : held.length ≤ 1000) (hk : ks.length < 100000)
  (h0 : ∀ k, K ≤ k → besomref09_Proves.l0 k x0 ed x3 x4 held (ks ++ [c5]) (wrap64 ((j : Int) + 1)) = some R) :
  ∀ (d k i : Nat) (b : Bool), i ≤ unl.length → unl.length - i = d → K + held.length + d + 1 < k →
   besomref09_Proves.l2 k x0 ed x3 x4 held ks (j : Int) b (i : Int) c0 c1 c2 ifs unl c5 = some (if (b && !(unl.drop i).any fun s => decide (s ∈ held)) = true then R else (false, (j : Int), 0)) := by
 intro d
 induction d with
 | zero =>
  intro k i b h1 h2 h3
  obtain ⟨k, rfl⟩ : ∃ m, k = m + 1 := ⟨k - 1, by omega⟩
  simp only [besomref09_Proves.l2]
  rw [if_neg (by omega), List.drop_of_length_le (by omega)]
  cases b
  ·simp
  ·rw [if_pos rfl, if_pos (by omega), h0 k (by omega)]; simp
 | succ d ih =>
  intro k i b h1 h2 h3
  obtain ⟨k, rfl⟩ : ∃ m, k = m + 1 := ⟨k - 1, by omega⟩
  have hi : i < unl.length := by omega
  simp only [besomref09_Proves.l2]
  rw [if_pos (by omega), wrapN (by omega)]
  cases b with
  | false =>
   rw [if_neg (by decide), ih k (i + 1) false (by omega) (by omega) (by omega)]
   simp
  | true =>
   rw [if_pos rfl, if_pos (by omega), getD_at _ _ hi, Has_eq _ _ _ (by omega) (by omega), Option.bind_some, ih k (i + 1) _ (by omega) (by omega) (by omega), List.drop_eq_getElem_cons hi]
   generalize unl[i] = x
   generalize List.drop (i + 1) unl = t
   by_cases e : x ∈ held <;> simp [e]
theorem Pl1 (x0 : List S25) (ed : Int) (x3 : List Int) (x4 : ByteArray) (held ks : List ByteArray) (j : Nat) (c0 : ByteArray) (c1 c2 : Int) (ifs unl : List ByteArray) (c5 : ByteArray) (R : Bool × Int × Int) (K : Nat)
  (hi : ifs.length ≤ 9223372036854775807) (hu : unl.length ≤ 9223372036854775807) (hh : held.length ≤ 1000) (hk : ks.length < 100000)
  (h0 : ∀ k, K ≤ k → besomref09_Proves.l0 k x0 ed x3 x4 held (ks ++ [c5]) (wrap64 ((j : Int) + 1)) = some R) :
  ∀ (d k i : Nat) (b : Bool), i ≤ ifs.length → ifs.length - i = d → K + held.length + unl.length + ks.length + d + 3 < k →
   besomref09_Proves.l1 k x0 ed x3 x4 held ks (j : Int) b (i : Int) c0 c1 c2 ifs unl c5 = some (if ((b && (ifs.drop i).all fun s => decide (s ∈ ks)) && !unl.any fun s => decide (s ∈ held)) = true then R else (false, (j : Int), 0)) := by
 intro d
 induction d with
 | zero =>
  intro k i b h1 h2 h3
  obtain ⟨k, rfl⟩ : ∃ m, k = m + 1 := ⟨k - 1, by omega⟩
  simp only [besomref09_Proves.l1]
  have := Pl2 x0 ed x3 x4 held ks j c0 c1 c2 ifs unl c5 R K hu hh hk h0 unl.length k 0 b (by omega) (by omega) (by omega)
  rw [List.drop_zero] at this
  rw [if_neg (by omega), List.drop_of_length_le (by omega)]
  simpa using this
 | succ d ih =>
  intro k i b h1 h2 h3
  obtain ⟨k, rfl⟩ : ∃ m, k = m + 1 := ⟨k - 1, by omega⟩
  have hi' : i < ifs.length := by omega
  simp only [besomref09_Proves.l1]
  rw [if_pos (by omega), wrapN (by omega)]
  cases b with
  | false =>
   rw [if_neg (by decide), ih k (i + 1) false (by omega) (by omega) (by omega)]
   simp
  | true =>
   rw [if_pos rfl, if_pos (by omega), getD_at _ _ hi', Has_eq _ _ _ (by omega) (by omega), Option.bind_some, ih k (i + 1) _ (by omega) (by omega) (by omega), List.drop_eq_getElem_cons hi']
   generalize ifs[i] = x
   generalize List.drop (i + 1) ifs = t
   by_cases e : x ∈ ks <;> simp [e]
def endOf (claim : ByteArray) (p : Option Nat × List ByteArray) : Bool × Int × Int := match p.1 with
 | none => (decide (claim ∈ p.2), -1, 0)
 | some j => (false, (j : Int), 0)
set_option maxRecDepth 100000 in
theorem Pl0 (x0 : List S25) (ed : Int) (x3 : List Int) (x4 : ByteArray) (held : List ByteArray) (hx : ∀ x ∈ x0, x.f3.length ≤ 8 ∧ x.f4.length ≤ 8) (hl : x0.length ≤ 64) (hs : x3.length ≤ 1000) (hi : indexB x0.length x3 = true) (hh : held.length ≤ 1000) (F : Nat → Nat) (hF0 : 5000 ≤ F 0) (hF : ∀ d, F d + 5000 ≤ F (d + 1)) :
  ∀ (d k j : Nat) (ks : List ByteArray), j ≤ x3.length → x3.length - j = d → ks.length + d ≤ 3000 → F d < k →
   besomref09_Proves.l0 k x0 ed x3 x4 held ks (j : Int) = some (endOf x4 (proveL ed (x0.map toC) held ((x3.drop j).map Int.toNat) ks j)) := by
 intro d
 induction d with
 | zero =>
  intro k j ks h1 h2 h3 h4
  obtain ⟨k, rfl⟩ : ∃ m, k = m + 1 := ⟨k - 1, by omega⟩
  simp only [besomref09_Proves.l0]
  rw [if_neg (by omega), List.drop_of_length_le (by omega), Has_eq _ _ _ (by omega) (by omega)]
  rfl
 | succ d ih =>
  intro k j ks h1 h2 h3 h4
  obtain ⟨k, rfl⟩ : ∃ m, k = m + 1 := ⟨k - 1, by omega⟩
  have hj : j < x3.length := by omega
  obtain ⟨q0, q1⟩ := indexB_at hi j hj
  obtain ⟨i, hii⟩ : ∃ i : Nat, x3[j] = (i : Int) := ⟨x3[j].toNat, by omega⟩
  have hil : i < x0.length := by omega
  have hxm := hx (rd_T25 x0 (i : Int)) (by rw [rdT_at x0 i hil]; exact List.getElem_mem hil)
  simp only [besomref09_Proves.l0]
  rw [rd_nat _ _ hj, hii, if_pos (by omega), if_pos (by omega), if_pos (by omega), if_pos (by omega), Stands_eq, Option.bind_some]
  have hFd := hF d
  have h0 : ∀ k', F d + 1 ≤ k' → besomref09_Proves.l0 k' x0 ed x3 x4 held (ks ++ [(rd_T25 x0 (i : Int)).f5]) (wrap64 ((j : Int) + 1)) = some (endOf x4 (proveL ed (x0.map toC) held ((x3.drop (j + 1)).map Int.toNat) (ks ++ [(rd_T25 x0 (i : Int)).f5]) (j + 1))) := fun k' hk' => by
   rw [wrapN (by omega)]
   exact ih k' (j + 1) _ (by omega) (by omega) (by simp; omega) (by omega)
  have := Pl1 x0 ed x3 x4 held ks j (rd_T25 x0 (i : Int)).f0 (rd_T25 x0 (i : Int)).f1 (rd_T25 x0 (i : Int)).f2 (rd_T25 x0 (i : Int)).f3 (rd_T25 x0 (i : Int)).f4 (rd_T25 x0 (i : Int)).f5 _ _ (by omega) (by omega) hh (by omega) h0 (rd_T25 x0 (i : Int)).f3.length k 0
   (decide ((rd_T25 x0 (i : Int)).f1 ≤ ed) && decide (ed ≤ (rd_T25 x0 (i : Int)).f2)) (by omega) (by omega) (by omega)
  rw [show ((0 : Nat) : Int) = 0 from rfl] at this
  rw [this, List.drop_zero, List.drop_eq_getElem_cons hj, List.map_cons, hii, Int.toNat_natCast, Prot.proveL_cons]
  have hat := at_nat x0 i hil
  have hst : stepOk ed (x0.map toC) held ks i = (((decide ((rd_T25 x0 (i : Int)).f1 ≤ ed) && decide (ed ≤ (rd_T25 x0 (i : Int)).f2)) && (rd_T25 x0 (i : Int)).f3.all fun s => decide (s ∈ ks)) && !(rd_T25 x0 (i : Int)).f4.any fun s => decide (s ∈ held)) := by
   unfold stepOk Prot.standsB
   rw [hat]
   simp only [contains_mem, toC]
   by_cases p : (rd_T25 x0 (i : Int)).f1 ≤ ed <;> by_cases q : ed ≤ (rd_T25 x0 (i : Int)).f2 <;> simp [p, q]
  rw [hst, hat]
  split
  ·rfl
  ·rfl
end
section
open Prot (heldOf derive proveL at_ stepOk)
theorem indices_loop (l0 : List S25) (l : List Int) (h0 : l0.length ≤ 64) (hl : l.length ≤ 9223372036854775807) : ∀ (d k i : Nat), i ≤ l.length → l.length - i = d → d < k → besomref09_indices.l0 k l0 l (i : Int) = some (indexB l0.length (l.drop i)) := by
 intro d
 induction d with
 | zero =>
  intro k i h1 h2 h3
  obtain ⟨k, rfl⟩ : ∃ m, k = m + 1 := ⟨k - 1, by omega⟩
  simp only [besomref09_indices.l0]
  rw [if_neg (by omega), List.drop_of_length_le (by omega)]
  rfl
 | succ d ih =>
  intro k i h1 h2 h3
  obtain ⟨k, rfl⟩ : ∃ m, k = m + 1 := ⟨k - 1, by omega⟩
  have hi : i < l.length := by omega
  simp only [besomref09_indices.l0]
  rw [if_pos (by omega), if_pos (by omega), rd_nat _ _ hi, in_eq, Option.bind_some, wrapN (by omega), ih k (i + 1) (by omega) (by omega) (by omega), wrap64_of (by omega) (by omega), List.drop_eq_getElem_cons hi]
  unfold indexB
  generalize l[i] = x
  generalize List.drop (i + 1) l = t
  by_cases p : 0 ≤ x <;> by_cases q : x ≤ (l0.length : Int) - 1 <;> simp [p, q]
theorem indices_eq (l0 : List S25) (l : List Int) (k : Nat) (h0 : l0.length ≤ 64) (hl : l.length ≤ 9223372036854775807) (hk : l.length < k) : besomref09_indices.f k l0 l = some (indexB l0.length l) := by
 have := indices_loop l0 l h0 hl l.length k 0 (by omega) (by omega) hk
 simpa [besomref09_indices.f] using this
theorem ok_lens {l0 : List S25} {m : List (ByteArray × Nat)} (h : boundOf l0 = .ok m) : ∀ x ∈ l0, x.f3.length ≤ 8 ∧ x.f4.length ≤ 8 := fun x hx => by
 have := ok_parts ((okBook h).ok x hx)
 exact ⟨this.2.2.1.1, this.2.2.2.1⟩
theorem isok_ends (c : ByteArray) (p : Option Nat × List ByteArray) : endOf c p = ((p.1.isNone && has (setOf p.2) c), atOf p.1, 0) := by
 obtain ⟨a, b⟩ := p
 cases a with
 | none => simp [endOf, atOf, has_setOf]
 | some j => simp [endOf, atOf]
def Fuel (d : Nat) : Nat := (d + 1) * 5000
theorem fuel0 : 5000 ≤ Fuel 0 := by decide
theorem fuelS (d : Nat) : Fuel d + 5000 ≤ Fuel (d + 1) := by unfold Fuel; rw [Nat.add_mul (d + 1) 1 5000, Nat.one_mul]; exact Nat.le_refl _
theorem Proves_eq (l0 : List S25) (ed : Int) (facts : List ByteArray) (steps : List Int) (claim : ByteArray) (k : Nat) (hf : facts.length ≤ 70) (hs : steps.length ≤ 100) (hk : Fuel 1000 < k) :
  besomref09_Proves.f k l0 ed facts steps claim = some (match provesOf l0 ed facts steps claim with | .error p => (false, -1, p.2) | .ok r => (r.1, r.2, 0)) := by
 have hF : 1000 < Fuel 1000 := by decide
 have hF2 : Fuel 100 < Fuel 1000 := by decide
 unfold besomref09_Proves.f provesOf
 rw [asked_eq l0 ed facts k (by omega) (by omega), Option.bind_some]
 unfold askedErr
 cases ha : askedOf l0 ed facts with
 | error p => simp [asked_err ha]
 | ok mo =>
  obtain ⟨m, o⟩ := mo
  have hb := (asked_ok ha).1
  have hh := held_length ha
  have hl0 := (okBook hb).len
  simp only [↓reduceIte, Name_eq _ k (show 40 ≤ k by omega), Option.bind_some]
  by_cases h1 : nameB claim = true
  case neg => simp [h1]
  rw [if_pos h1, if_pos h1, indices_eq l0 steps k hl0 (by omega) (by omega), Option.bind_some]
  by_cases h2 : indexB l0.length steps = true
  case neg => simp [h2]
  rw [if_pos h2, if_pos h2, make1_eq ha]
  simp only [Option.bind_some, List.nil_append, List.length_nil]
  rw [if_pos (by omega)]
  have hstep : Fuel steps.length < k := by
   have : Fuel steps.length ≤ Fuel 100 := by unfold Fuel; exact Nat.mul_le_mul_right _ (by omega)
   omega
  have := Pl0 l0 ed steps claim (heldOf (l0.map toC) facts o) (ok_lens hb) hl0 (by omega) h2 (by omega) Fuel fuel0 fuelS steps.length k 0 facts (by omega) (by omega) (by omega) hstep
  rw [show ((0 : Nat) : Int) = 0 from rfl, List.drop_zero] at this
  rw [this, isok_ends]
theorem great_l1 (l0 : List S25) (l : List ByteArray) (x5 : Int) : ∀ (d i : Nat), i ≤ 100 → 100 - i = d → ∃ b, (∀ k, 2 * d + 4 < k → besomlaw09_great.l1 k l0 l x5 (i : Int) = some b) ∧ (b = false → l0.length ≤ 70 ∧ l.length ≤ 70) := by
 have fin : ∃ b, (∀ k i, 0 < k → besomlaw09_great.j3 k l0 l x5 i false = some b) ∧ (b = false → l0.length ≤ 70 ∧ l.length ≤ 70) := by
  by_cases h1 : (l0.length : Int) > 70
  ·refine ⟨true, fun k i hk => ?_, by simp⟩
   obtain ⟨k, rfl⟩ : ∃ m, k = m + 1 := ⟨k - 1, by omega⟩
   simp only [besomlaw09_great.j3]
   rw [if_neg (by decide), if_pos h1]
  ·by_cases h2 : (l.length : Int) > 70
   ·refine ⟨true, fun k i hk => ?_, by simp⟩
    obtain ⟨k, rfl⟩ : ∃ m, k = m + 1 := ⟨k - 1, by omega⟩
    simp only [besomlaw09_great.j3]
    rw [if_neg (by decide), if_neg h1, if_pos h2]
   ·refine ⟨decide (x5 > 300), fun k i hk => ?_, fun _ => by omega⟩
    obtain ⟨k, rfl⟩ : ∃ m, k = m + 1 := ⟨k - 1, by omega⟩
    simp only [besomlaw09_great.j3]
    rw [if_neg (by decide), if_neg h1, if_neg h2]
 obtain ⟨b0, f1, f2⟩ := fin
 intro d
 induction d with
 | zero =>
  intro i h1 h2
  refine ⟨b0, fun k hk => ?_, f2⟩
  obtain ⟨k, rfl⟩ : ∃ m, k = m + 1 := ⟨k - 1, by omega⟩
  simp only [besomlaw09_great.l1]
  split
  ·rw [show decide ((i : Int) < 100) = false from decide_eq_false (by omega), f1 k _ (by omega)]
  ·rw [f1 k _ (by omega)]
 | succ d ih =>
  intro i h1 h2
  by_cases hi : i < l.length
  ·by_cases hz : ((rdOf ByteArray.empty l (i : Int)).size : Int) > 100
   ·refine ⟨true, fun k hk => ?_, by simp⟩
    obtain ⟨k, rfl⟩ : ∃ m, k = m + 2 := ⟨k - 2, by omega⟩
    simp only [besomlaw09_great.l1]
    rw [if_pos (by omega), show decide ((i : Int) < 100) = true from decide_eq_true (by omega)]
    simp only [besomlaw09_great.j3]
    simp only [↓reduceIte]
    rw [if_pos (by omega), if_pos (by omega), if_pos hz]
   ·obtain ⟨b, g1, g2⟩ := ih (i + 1) (by omega) (by omega)
    refine ⟨b, fun k hk => ?_, g2⟩
    obtain ⟨k, rfl⟩ : ∃ m, k = m + 2 := ⟨k - 2, by omega⟩
    simp only [besomlaw09_great.l1]
    rw [if_pos (by omega), show decide ((i : Int) < 100) = true from decide_eq_true (by omega)]
    simp only [besomlaw09_great.j3]
    simp only [↓reduceIte]
    rw [if_pos (by omega), if_pos (by omega), if_neg hz, wrapN (by omega), g1 k (by omega)]
  ·refine ⟨b0, fun k hk => ?_, f2⟩
   obtain ⟨k, rfl⟩ : ∃ m, k = m + 1 := ⟨k - 1, by omega⟩
   simp only [besomlaw09_great.l1]
   rw [if_neg (by omega), f1 k _ (by omega)]
theorem great_l0 (l0 : List S25) (l : List ByteArray) : ∀ (d i : Nat) (x5 : Int), i ≤ 100 → 100 - i = d → ∃ b, (∀ k, d + 300 < k → besomlaw09_great.l0 k l0 l x5 (i : Int) = some b) ∧ (b = false → l0.length ≤ 70 ∧ l.length ≤ 70) := by
 have fin : ∀ x5 : Int, ∃ b, (∀ k, 250 < k → besomlaw09_great.j1 k l0 l x5 = some b) ∧ (b = false → l0.length ≤ 70 ∧ l.length ≤ 70) := fun x5 => by
  obtain ⟨b, g1, g2⟩ := great_l1 l0 l x5 100 0 (by omega) (by omega)
  refine ⟨b, fun k hk => ?_, g2⟩
  obtain ⟨k, rfl⟩ : ∃ m, k = m + 1 := ⟨k - 1, by omega⟩
  simp only [besomlaw09_great.j1]
  exact g1 k (by omega)
 intro d
 induction d with
 | zero =>
  intro i x5 h1 h2
  obtain ⟨b0, f1, f2⟩ := fin x5
  refine ⟨b0, fun k hk => ?_, f2⟩
  obtain ⟨k, rfl⟩ : ∃ m, k = m + 1 := ⟨k - 1, by omega⟩
  simp only [besomlaw09_great.l0]
  split
  ·rw [if_neg (by omega), f1 k (by omega)]
  ·rw [f1 k (by omega)]
 | succ d ih =>
  intro i x5 h1 h2
  by_cases hi : (i : Int) < (l0.length : Int)
  ·obtain ⟨b, g1, g2⟩ := ih (i + 1) (wrap64 ((wrap64 ((wrap64 (x5 + (((rd_T25 l0 (i : Int)).f3).length : Int))) + (((rd_T25 l0 (i : Int)).f4).length : Int))) + (wrap64 (Int.tdiv (wrap64 ((((rd_T25 l0 (i : Int)).f0).size : Int) + (((rd_T25 l0 (i : Int)).f5).size : Int))) 50)))) (by omega) (by omega)
   refine ⟨b, fun k hk => ?_, g2⟩
   obtain ⟨k, rfl⟩ : ∃ m, k = m + 1 := ⟨k - 1, by omega⟩
   simp only [besomlaw09_great.l0]
   rw [if_pos hi, if_pos (by omega), if_pos (by omega), wrapN (by omega), g1 k (by omega)]
  ·obtain ⟨b0, f1, f2⟩ := fin x5
   refine ⟨b0, fun k hk => ?_, f2⟩
   obtain ⟨k, rfl⟩ : ∃ m, k = m + 1 := ⟨k - 1, by omega⟩
   simp only [besomlaw09_great.l0]
   rw [if_neg hi, f1 k (by omega)]
theorem great_ex (l0 : List S25) (l : List ByteArray) : ∃ b, (∀ k, 400 < k → besomlaw09_great.f k l0 l = some b) ∧ (b = false → l0.length ≤ 70 ∧ l.length ≤ 70) := by
 obtain ⟨b, g1, g2⟩ := great_l0 l0 l 100 0 (l.length : Int) (by omega) (by omega)
 exact ⟨b, fun k hk => g1 k (by omega), g2⟩
end
section
open Prot (heldOf derive proveL at_ stepOk)
abbrev DL (s : ByteArray) : List UInt8 := s.data.toList
theorem DL_append (a b : ByteArray) : DL (a ++ b) = DL a ++ DL b := by simp [DL]
theorem DL_mk (a : ByteArray) : (⟨(DL a).toArray⟩ : ByteArray) = a := Lib.mk_data a
theorem DL_len (a : ByteArray) : (DL a).length = a.size := by show a.data.toList.length = a.data.size; simp
theorem join_snoc (xs : List (List UInt8)) (x : List UInt8) (h : xs ≠ []) : Lib.join (xs ++ [x]) [44, 32] = Lib.join xs [44, 32] ++ [44, 32] ++ x := by
 cases xs with
 | nil => exact absurd rfl h
 | cons y r =>
  unfold Lib.join
  rw [List.cons_append]
  induction r generalizing y with
  | nil => simp [List.intercalate]
  | cons z r ih =>
   have := ih z (by simp)
   simp only [List.intercalate, List.intersperse, List.cons_append, List.flatten_cons] at this ⊢
   rw [this]
   simp [List.append_assoc]
theorem joined_loop (l : List ByteArray) (hl : l.length ≤ 8) (hs : ∀ s ∈ l, s.size ≤ 32) : ∀ (d k i : Nat) (x : ByteArray), i ≤ l.length → l.length - i = d → d < k → DL x = Lib.join ((l.take i).map DL) [44, 32] → x.size ≤ i * 34 →
  besomref09_joined.l0 k l x (i : Int) = some ⟨(Lib.join (l.map DL) [44, 32]).toArray⟩ := by
 intro d
 induction d with
 | zero =>
  intro k i x h1 h2 h3 h4 h5
  obtain ⟨k, rfl⟩ : ∃ m, k = m + 1 := ⟨k - 1, by omega⟩
  simp only [besomref09_joined.l0]
  rw [if_neg (by omega)]
  rw [List.take_of_length_le (by omega)] at h4
  rw [← h4, DL_mk]
 | succ d ih =>
  intro k i x h1 h2 h3 h4 h5
  obtain ⟨k, rfl⟩ : ∃ m, k = m + 1 := ⟨k - 1, by omega⟩
  have hi : i < l.length := by omega
  have hz := hs _ (List.getElem_mem hi)
  have htk : (l.take (i + 1)).map DL = (l.take i).map DL ++ [DL l[i]] := by
   have e : l.take (i + 1) = l.take i ++ [l[i]] := (List.take_append_getElem hi).symm
   rw [e, List.map_append]; rfl
  simp only [besomref09_joined.l0]
  rw [if_pos (by omega), getD_at _ _ hi, wrapN (by omega)]
  by_cases h0 : i = 0
  ·subst h0
   rw [if_neg (by omega), if_pos (by omega), if_pos (by omega)]
   refine ih k 1 _ (by omega) (by omega) (by omega) ?_ ?_
   ·rw [DL_append, h4, htk]
    simp [Lib.join, List.intercalate]
   ·rw [ByteArray.size_append]; omega
  ·rw [if_pos (by omega), if_pos (by omega), if_pos (by omega), if_pos (by rw [ByteArray.size_append]; show x.size + 2 + l[i].size ≤ 9223372036854775807; have : i * 34 ≤ 8 * 34 := Nat.mul_le_mul (by omega) (Nat.le_refl _); omega)]
   refine ih k (i + 1) _ (by omega) (by omega) (by omega) ?_ ?_
   ·rw [DL_append, DL_append, h4, htk, join_snoc _ _ (by
     intro e
     have := congrArg List.length e
     simp only [List.length_map, List.length_take, List.length_nil] at this
     omega)]
   ·rw [ByteArray.size_append, ByteArray.size_append]
    show x.size + 2 + l[i].size ≤ _
    omega
theorem joined_eq (l : List ByteArray) (k : Nat) (hl : l.length ≤ 8) (hs : ∀ s ∈ l, s.size ≤ 32) (hk : l.length < k) : besomref09_joined.f k l = some ⟨(Lib.join (l.map DL) [44, 32]).toArray⟩ := by
 have := joined_loop l hl hs l.length k 0 ⟨#[]⟩ (by omega) (by omega) hk rfl (by decide)
 simpa [besomref09_joined.f] using this
theorem join_size (l : List ByteArray) (hl : l.length ≤ 8) (hs : ∀ s ∈ l, s.size ≤ 32) : (Lib.join (l.map DL) [44, 32]).length ≤ 300 := by
 have := join_length (l.map DL) [44, 32] 32 (fun x hx => by
  obtain ⟨s, hm, rfl⟩ := List.mem_map.1 hx
  rw [DL_len]; exact hs s hm)
 simp only [List.length_map, List.length_cons, List.length_nil] at this
 have h2 : l.length * (32 + (0 + 1 + 1)) ≤ 8 * 34 := Nat.mul_le_mul hl (Nat.le_refl _)
 omega
theorem size_mk (l : List UInt8) : (⟨l.toArray⟩ : ByteArray).size = l.length := by simp [ByteArray.size]
theorem Text_loop (l0 : List S25) (sl : List Int) (hok : ∀ x ∈ l0, okC x = true) (hi : indexB l0.length sl = true) (hs : sl.length ≤ 1000) (hl : l0.length ≤ 64) : ∀ (d k j : Nat) (x : ByteArray), j ≤ sl.length → sl.length - j = d → d + 10 < k → x.size + d * 1000 ≤ 10000000 →
  besomref09_Text.l0 k l0 sl x (j : Int) = some (⟨(DL x ++ linesOf l0 ((sl.drop j).map Int.toNat)).toArray⟩, 0) := by
 intro d
 induction d with
 | zero =>
  intro k j x h1 h2 h3 h4
  obtain ⟨k, rfl⟩ : ∃ m, k = m + 1 := ⟨k - 1, by omega⟩
  simp only [besomref09_Text.l0]
  rw [if_neg (by omega), List.drop_of_length_le (by omega)]
  simp only [List.map_nil, linesOf, List.flatMap_nil, List.append_nil]
  try rw [DL_mk]
 | succ d ih =>
  intro k j x h1 h2 h3 h4
  obtain ⟨k, rfl⟩ : ∃ m, k = m + 1 := ⟨k - 1, by omega⟩
  have hj : j < sl.length := by omega
  obtain ⟨q0, q1⟩ := indexB_at hi j hj
  obtain ⟨i, hii⟩ : ∃ i : Nat, sl[j] = (i : Int) := ⟨sl[j].toNat, by omega⟩
  have hil : i < l0.length := by omega
  obtain ⟨c, hc⟩ : ∃ c, c = rd_T25 l0 (i : Int) := ⟨_, rfl⟩
  have hcm : c ∈ l0 := by rw [hc, rdT_at l0 i hil]; exact List.getElem_mem hil
  obtain ⟨p0, p5, ⟨p3, r3⟩, ⟨p4, r4⟩⟩ := ok_parts (hok c hcm)
  have hline : linesOf l0 ((sl.drop j).map Int.toNat) = lineOf c ++ linesOf l0 ((sl.drop (j + 1)).map Int.toNat) := by
   rw [List.drop_eq_getElem_cons hj, List.map_cons, hii, Int.toNat_natCast]
   have : l0.getD i z25 = c := by rw [hc, rdT_at l0 i hil]; simp [List.getD_eq_getElem?_getD, List.getElem?_eq_getElem hil]
   simp only [linesOf, List.flatMap_cons, this]
  have e3 := joined_eq c.f3 k p3 r3 (by omega)
  have e4 := joined_eq c.f4 k p4 r4 (by omega)
  have s3 := join_size c.f3 p3 r3
  have s4 := join_size c.f4 p4 r4
  obtain ⟨j3, hj3⟩ : ∃ j3, j3 = Lib.join (c.f3.map DL) [44, 32] := ⟨_, rfl⟩
  obtain ⟨j4, hj4⟩ : ∃ j4, j4 = Lib.join (c.f4.map DL) [44, 32] := ⟨_, rfl⟩
  rw [← hj3] at e3 s3
  rw [← hj4] at e4 s4
  have z2 : (⟨#[58, 32]⟩ : ByteArray).size = 2 := rfl
  have z4 : (⟨#[32, 105, 102, 32]⟩ : ByteArray).size = 4 := rfl
  have z8 : (⟨#[32, 117, 110, 108, 101, 115, 115, 32]⟩ : ByteArray).size = 8 := rfl
  have z1 : (⟨#[10]⟩ : ByteArray).size = 1 := rfl
  have y3 := size_mk j3
  have y4 := size_mk j4
  simp only [besomref09_Text.l0]
  rw [rd_nat _ _ hj, hii, if_pos (by omega), if_pos (by omega), if_pos (by omega), if_pos (by omega), ← hc, e3, e4, wrapN (by omega)]
  simp only [Option.bind_some]
  rw [if_pos (by omega), if_pos (by simp only [ByteArray.size_append]; omega), if_pos (by simp only [ByteArray.size_append]; omega)]
  have hfin : ∀ y : ByteArray, DL y = DL x ++ lineOf c → y.size ≤ x.size + 1000 → besomref09_Text.l0 k l0 sl y ((j + 1 : Nat) : Int) = some (⟨(DL x ++ linesOf l0 ((sl.drop j).map Int.toNat)).toArray⟩, 0) := fun y hy hz => by
   rw [ih k (j + 1) y (by omega) (by omega) (by omega) (by omega), hline, hy, List.append_assoc]
  have d2 : DL (⟨#[58, 32]⟩ : ByteArray) = [58, 32] := rfl
  have d4 : DL (⟨#[32, 105, 102, 32]⟩ : ByteArray) = [32, 105, 102, 32] := rfl
  have d8 : DL (⟨#[32, 117, 110, 108, 101, 115, 115, 32]⟩ : ByteArray) = [32, 117, 110, 108, 101, 115, 115, 32] := rfl
  have d1 : DL (⟨#[10]⟩ : ByteArray) = [10] := rfl
  by_cases g3 : (c.f3.length : Int) > 0
  ·rw [if_pos g3, if_pos (by simp only [ByteArray.size_append]; omega), if_pos (by simp only [ByteArray.size_append]; omega)]
   by_cases g4 : (c.f4.length : Int) > 0
   ·rw [if_pos g4, if_pos (by simp only [ByteArray.size_append]; omega), if_pos (by simp only [ByteArray.size_append]; omega), if_pos (by simp only [ByteArray.size_append]; omega)]
    refine hfin _ ?_ (by simp only [ByteArray.size_append]; omega)
    simp only [DL_append, d2, d4, d8, d1, lineOf, partOf]
    rw [if_pos (by omega), if_pos (by omega), ← hj3, ← hj4]
    simp [DL, List.append_assoc]
   ·rw [if_neg g4, if_pos (by simp only [ByteArray.size_append]; omega)]
    refine hfin _ ?_ (by simp only [ByteArray.size_append]; omega)
    simp only [DL_append, d2, d4, d8, d1, lineOf, partOf]
    rw [if_pos (by omega), if_neg (by omega), ← hj3]
    simp [DL, List.append_assoc]
  ·rw [if_neg g3]
   by_cases g4 : (c.f4.length : Int) > 0
   ·rw [if_pos g4, if_pos (by simp only [ByteArray.size_append]; omega), if_pos (by simp only [ByteArray.size_append]; omega), if_pos (by simp only [ByteArray.size_append]; omega)]
    refine hfin _ ?_ (by simp only [ByteArray.size_append]; omega)
    simp only [DL_append, d2, d4, d8, d1, lineOf, partOf]
    rw [if_neg (by omega), if_pos (by omega), ← hj4]
    simp [DL, List.append_assoc]
   ·rw [if_neg g4, if_pos (by simp only [ByteArray.size_append]; omega)]
    refine hfin _ ?_ (by simp only [ByteArray.size_append]; omega)
    simp only [DL_append, d2, d4, d8, d1, lineOf, partOf]
    rw [if_neg (by omega), if_neg (by omega)]
    simp [DL, List.append_assoc]
theorem Text_eq (l0 : List S25) (steps : List Int) (k : Nat) (hs : steps.length ≤ 100) (hk : 2000 < k) : besomref09_Text.f k l0 steps = some (match textOf l0 steps with | .error p => (⟨#[]⟩, p.2) | .ok r => (r, 0)) := by
 unfold besomref09_Text.f besomref09_Check.f textOf
 simp only [Option.bind_some]
 cases hb : boundOf l0 with
 | error p =>
  have := bound_err hb
  simp [errOf, this]
 | ok m =>
  have hok := okBook hb
  simp only [errOf, Option.getD_none, ↓reduceIte, indices_eq l0 steps k hok.len (by omega) (by omega), Option.bind_some]
  by_cases h2 : indexB l0.length steps = true
  case neg => simp [h2]
  rw [if_pos h2, if_pos h2]
  have := Text_loop l0 steps hok.ok h2 (by omega) hok.len steps.length k 0 ⟨#[]⟩ (by omega) (by omega) (by omega) (by show 0 + _ ≤ _; omega)
  rw [show ((0 : Nat) : Int) = 0 from rfl, List.drop_zero] at this
  rw [this]
  rfl
theorem prot_text (l0 : List S25) (steps : List Int) (hs : steps.length ≤ 500) : protest_Text.f l0 steps = some (match textOf l0 steps with | .error p => (⟨#[]⟩, p.2) | .ok r => (r, 0)) := by
 unfold protest_Text.f
 rw [if_pos hs]
 rfl
theorem ProtestProofs_true (l0 : List S25) (a1 : Int) (l2 : List ByteArray) (l3 : List Int) (a4 : ByteArray) : ∃ k, besomlaw09_ProtestProofs.f k l0 a1 l2 l3 a4 = some true := by
 obtain ⟨b, g1, g2⟩ := great_ex l0 l2
 have hF : 3000 < Fuel 1000 := by decide
 refine ⟨Fuel 1000 + 5, ?_⟩
 have hj : ∀ b, (b = false → l2.length ≤ 70 ∧ l3.length ≤ 100) → besomlaw09_ProtestProofs.j0 (Fuel 1000 + 4 + 1) l0 a1 l2 l3 a4 b = some true := fun b hb => by
  simp only [besomlaw09_ProtestProofs.j0]
  cases b with
  | true => rfl
  | false =>
   obtain ⟨h1, h2⟩ := hb rfl
   rw [if_neg (by decide), Proves_eq l0 a1 l2 l3 a4 _ h1 h2 (by omega), Text_eq l0 l3 _ h2 (by omega), prot_text l0 l3 (by omega)]
   unfold protest_Proves.f
   simp only [Option.bind_some]
   have hne : ∀ p : Int × Int, provesOf l0 a1 l2 l3 a4 = .error p → p.2 ≠ 0 := fun p hp => by
    unfold provesOf at hp
    split at hp
    ·rename_i q ha
     cases hp
     exact asked_err ha
    ·split at hp
     ·split at hp
      ·cases hp
      ·cases hp; decide
     ·cases hp; decide
   cases hp : provesOf l0 a1 l2 l3 a4 with
   | error p => simp [hne p hp, besomlaw09_awake.f]
   | ok r => simp [besomlaw09_awake.f]
 unfold besomlaw09_ProtestProofs.f
 rw [g1 _ (by omega), Option.bind_some]
 cases b with
 | true => rw [if_pos rfl]; exact hj true (by simp)
 | false =>
  rw [if_neg (by decide)]
  obtain ⟨h1, h2⟩ := g2 rfl
  split
  ·exact hj true (by simp)
  ·refine hj _ fun h => ⟨h2, ?_⟩
   simp only [decide_eq_false_iff_not] at h
   omega
end
section
section
variable {H : Type} {enc : TypeId × Value → H} {w : World} {base : Nat} {spare : Nat → Bool} {held : Bool} {fuel : Nat} {cs : List Value} {x : DataW H × List MemPlace}
theorem open_S {t : TypeId} (ht : Tryz.prog.underlying t = some (.slice 9)) (h : DataW.trod enc Tryz.prog w base spare held fuel t cs = some x) : ∃ A l c, cs = [.slice A (l : List ByteArray).length c] ∧ l.length ≤ c ∧ Kd.C Kd.string w A l.length l := by
 rcases Go.Deep.open_strs ht Tryz.underlying9 (by kernel_rfl) h with ⟨rfl, _⟩ | ⟨a, len, cap, m, Sx, rfl, _, hl, hm, hmm, _, hc⟩
 ·exact ⟨none, [], 0, rfl, Nat.le_refl _, rfl, by decide, fun h => absurd h (by decide)⟩
 ·have hlm : len ≤ m := by rw [hmm]; split <;> omega
  refine ⟨some a, (List.range len).map Sx, cap, by simp, by simpa using hl, rfl, by simp only [List.length_map, List.length_range, maxLen] at *; omega, fun _ => ⟨a, rfl, fun j p hj => ⟨[.string p], rfl, rfl, fun i u hu => ?_⟩⟩⟩
  obtain ⟨hjl, rfl⟩ : j < len ∧ p = Sx j := by
   rw [List.getElem?_map] at hj
   obtain ⟨q, hq, rfl⟩ := Option.map_eq_some_iff.1 hj
   obtain ⟨h1, h2⟩ := List.getElem?_eq_some_iff.1 hq
   simp only [List.length_range] at h1
   rw [List.getElem_range] at h2
   subst h2
   exact ⟨h1, rfl⟩
  cases i with
  | succ n => simp at hu
  | zero =>
   simp at hu
   subst hu
   show w.cell? (a.add (j * 1 + 0)) = _
   rw [Nat.mul_one, Nat.add_zero]
   exact (hc j (by omega)).1
theorem open_I {t : TypeId} (ht : Tryz.prog.underlying t = some (.slice 3)) (h : DataW.trod enc Tryz.prog w base spare held fuel t cs = some x) : ∃ A l c, cs = [.slice A (l : List Int).length c] ∧ l.length ≤ c ∧ Kd.C (Kd.int .i64) w A l.length l := by
 rcases Go.ChangeShapes.open_ints ht Tryz.underlying3 (by kernel_rfl) h with ⟨rfl, _⟩ | ⟨a, len, cap, zs, rfl, _, hl, hm, hz, _, hc, _⟩
 ·exact ⟨none, [], 0, rfl, Nat.le_refl _, rfl, by decide, fun h => absurd h (by decide)⟩
 ·have hlm : len ≤ zs.length := by rw [hz]; split <;> omega
  have htl : (zs.take len).length = len := by simp; omega
  refine ⟨some a, zs.take len, cap, by rw [htl], by rw [htl]; exact hl, rfl, by rw [htl]; simp only [maxLen] at hm; omega, fun _ => ⟨a, rfl, fun j p hj => ⟨[.int .i64 p], rfl, rfl, fun i u hu => ?_⟩⟩⟩
  obtain ⟨hjl, hp⟩ := List.getElem?_eq_some_iff.1 hj
  rw [htl] at hjl
  cases i with
  | succ n => simp at hu
  | zero =>
   simp at hu
   subst hu
   show w.cell? (a.add (j * 1 + 0)) = _
   rw [Nat.mul_one, Nat.add_zero, hc j (by omega), ← hp]
   simp [List.getD_eq_getElem?_getD, List.getElem?_eq_getElem (show j < zs.length by omega)]
set_option maxRecDepth 100000 in
theorem open_cl (h : DataW.trod enc Tryz.prog w base spare held fuel 25 cs = some x) : ∃ y : S25, k25.K w y cs := by
 obtain ⟨xs, n, _, _, hl, hlen, hf⟩ := DataW.trod_struct Tryz.underlying25 h
 have hl6 : cs.length = 6 := hl.trans (by kernel_rfl)
 have e9 : Tryz.prog.cellsOf 9 = 1 := by kernel_rfl
 have e3 : Tryz.prog.cellsOf 3 = 1 := by kernel_rfl
 have e23 : Tryz.prog.cellsOf 23 = 1 := by kernel_rfl
 have hx6 : xs.length = 6 := hlen
 match cs, hl6 with
 | [v0, v1, v2, v3, v4, v5], _ =>
  match xs, hx6 with
  | [y0, y1, y2, y3, y4, y5], _ =>
   have f0 := hf 0 _ rfl
   have f1 := hf 1 _ rfl
   have f2 := hf 2 _ rfl
   have f3 := hf 3 _ rfl
   have f4 := hf 4 _ rfl
   have f5 := hf 5 _ rfl
   simp only [e9, e3, e23, List.drop_zero, List.drop_succ_cons, List.take_succ_cons, List.take_zero, List.getElem?_cons_zero, List.getElem?_cons_succ] at f0 f1 f2 f3 f4 f5
   obtain ⟨s0, g0, _⟩ := DataW.trod_string Tryz.underlying9 f0
   obtain ⟨n1, g1, _⟩ := DataW.trod_int Tryz.underlying3 f1
   obtain ⟨n2, g2, _⟩ := DataW.trod_int Tryz.underlying3 f2
   obtain ⟨A3, l3, c3, g3, h3, q3⟩ := open_S Tryz.underlying23 f3
   obtain ⟨A4, l4, c4, g4, h4, q4⟩ := open_S Tryz.underlying23 f4
   obtain ⟨s5, g5, _⟩ := DataW.trod_string Tryz.underlying9 f5
   cases g0; cases g1; cases g2; cases g3; cases g4; cases g5
   exact ⟨⟨s0, n1, n2, l3, l4, s5⟩, k25_mk w ⟨s0, n1, n2, l3, l4, s5⟩ h3 q3 h4 q4⟩
theorem open_book {t : TypeId} (ht : Tryz.prog.underlying t = some (.slice 25)) (h : DataW.trod enc Tryz.prog w base spare held fuel t cs = some x) : ∃ A l c, cs = [.slice A (l : List S25).length c] ∧ l.length ≤ c ∧ Kd.C k25 w A l.length l := by
 rcases Go.Deep.open_slice ht h with ⟨rfl, _⟩ | ⟨a, len, cap, m, n, D, Pl, rfl, _, hl, hm, hmm, _, hc⟩
 ·exact ⟨none, [], 0, rfl, Nat.le_refl _, rfl, by decide, fun h => absurd h (by decide)⟩
 ·have hlm : len ≤ m := by rw [hmm]; split <;> omega
  have e25 : Tryz.prog.cellsOf 25 = 6 := by kernel_rfl
  have each : ∀ i, i < m → ∃ y : S25, ∃ cs', cs'.length = 6 ∧ k25.K w y cs' ∧ ∀ j, j < 6 → w.cell? ((a.add (i * 6)).add j) = cs'[j]? := fun i hi => by
   obtain ⟨cs', h1, h2⟩ := hc i hi
   rw [e25] at h1
   obtain ⟨_, h3, h4⟩ := World.cells?_some h1
   obtain ⟨y, hy⟩ := open_cl h2
   exact ⟨y, cs', h3, hy, h4⟩
  have : ∃ Y : Nat → S25, ∀ i, i < m → ∃ cs', cs'.length = 6 ∧ k25.K w (Y i) cs' ∧ ∀ j, j < 6 → w.cell? ((a.add (i * 6)).add j) = cs'[j]? := by
   refine ⟨fun i => if h : i < m then (each i h).choose else z25, fun i hi => ?_⟩
   simp only [hi, dif_pos]
   exact (each i hi).choose_spec
  obtain ⟨Y, hY⟩ := this
  refine ⟨some a, (List.range len).map Y, cap, by simp, by simpa using hl, rfl, by simp only [List.length_map, List.length_range, maxLen] at *; omega, fun _ => ⟨a, rfl, fun j p hj => ?_⟩⟩
  obtain ⟨hjl, rfl⟩ : j < len ∧ p = Y j := by
   rw [List.getElem?_map] at hj
   obtain ⟨q, hq, rfl⟩ := Option.map_eq_some_iff.1 hj
   obtain ⟨h1, h2⟩ := List.getElem?_eq_some_iff.1 hq
   simp only [List.length_range] at h1
   rw [List.getElem_range] at h2
   subst h2
   exact ⟨h1, rfl⟩
  obtain ⟨cs', h1, h2, h3⟩ := hY j (by omega)
  refine ⟨cs', h1, h2, fun i u hu => ?_⟩
  have hi6 : i < 6 := by have := (List.getElem?_eq_some_iff.1 hu).1; omega
  have := h3 i hi6
  rw [hu] at this
  rw [← this]
  show w.cell? (a.add (j * 6 + i)) = w.cell? ((a.add (j * 6)).add i)
  rw [Go.Addr.add_add]
end
end
end Go.Proofs.YtlhkeohcickiaaaGreatDoor.E
namespace Go.Proofs.YtlhkeohcickiaaaGreatDoor.protestProofs
open Go.ChangeShapes Go.WideShapes Go.ChangeAt Go.RowKit Go.Proofs.YtlhkeohcickiaaaGreatDoor.E Go.Proofs.YtlhkeohcickiaaaGreatDoorW.PrintWords Go.Proofs.YtlhkeohcickiaaaGreatDoorW.PrintLast Go.Proofs.YtlhkeohcickiaaaGreatDoorW.PrintMore
open Go.ChangeMaps (open_string shut_string)
theorem own : ownKnob Tryz.prog.godebug = none := by kernel_rfl
theorem laidOut : laidOutB Tryz.prog = true := by kernel_rfl
set_option maxRecDepth 100000 in
theorem lifted (os : Os) (started : os.Started) (H : Type) (enc : TypeId × Value → H) :
  ReturnsInHanded {} Tryz.checked os 8 .any (fun w args => (Rows.protestProofsSpec.pre enc Tryz.prog Tryz.f8 Rows.protestProofsRow.domain false w args ∧ laidMetH Tryz.prog Rows.protestProofsRow.laid w) ∧ sizedMet enc Tryz.prog Tryz.f8 (OpenSpec.ofChange Rows.protestProofsSpec) false w args)
   (Rows.protestProofsSpec.post enc Tryz.prog Tryz.f8 false true false false) := by
 refine returnsInHanded_of_change_and (C := Tryz.checked) (X := fun w _ => laidMetH Tryz.prog Rows.protestProofsRow.laid w) (fun _ _ _ hh h => h.of_heap hh) own started (by kernel_rfl) Tryz.func8
  (ChangeSpec.witness_shaped (enc := enc) (C := Tryz.checked) (os := os) (X := fun w _ => laidMetH Tryz.prog Rows.protestProofsRow.laid w) false (World.laidAll Tryz.prog os Rows.protestProofsRow.laid) #[.slice none 0 0, .int .i64 0, .slice none 0 0, .slice none 0 0, .string ByteArray.empty] 8 (World.laidAll_os _ _ _)
   (World.shaped_of_ZipB (by kernel_rfl) (by kernel_rfl)) (by kernel_rfl) (by kernel_rfl) (by kernel_rfl)
   (by rw [MakeChecks.laidMetH_plain _ _ _ (by kernel_rfl)]; exact laidMet_laidAll _ (by kernel_rfl) (by kernel_rfl))) ?_
 intro W base args ds gs before hval0 hW hc _ hL _
 have hval : ∀ (j : Nat) t v, Tryz.f8.params[j]? = some t → args[j]? = some v → Value.okWide Tryz.prog W .any base t v := hval0
 have hW' := hW
 obtain ⟨p, q, hA0, hV, rfl, hfz, hnd⟩ := hW
 have hA : DataW.TrodAll enc Tryz.prog W 0 (fun _ => true) true Tryz.f8.params.toList args.toList ds p := hA0
 rw [Tryz.params8] at hA hval
 obtain ⟨v0, vs0, d0, ds0, p0, q0, hargs, rfl, rfl, h0, r0⟩ := trodAll_cons hA
 obtain ⟨v1, vs1, d1, ds1, p1, q1, rfl, rfl, rfl, h1, r1⟩ := trodAll_cons r0
 obtain ⟨v2, vs2, d2, ds2, p2, q2, rfl, rfl, rfl, h2, r2⟩ := trodAll_cons r1
 obtain ⟨v3, vs3, d3, ds3, p3, q3, rfl, rfl, rfl, h3, r3⟩ := trodAll_cons r2
 obtain ⟨v4, vs4, d4, ds4, p4, q4, rfl, rfl, rfl, h4, r4⟩ := trodAll_cons r3
 obtain ⟨rfl, rfl, rfl⟩ := trodAll_nil r4
 obtain rfl : args = #[v0, v1, v2, v3, v4] := by cases args; simp_all
 obtain ⟨rfl, rfl⟩ := trodVars_none hV
 obtain ⟨a0, len0, cap0, rfl⟩ := okWide_slice Tryz.underlying22 (hval 0 22 v0 rfl rfl)
 have k0 := h0
 have lt0 : ∀ x ∈ p0, x.block < W.heap.size := by obtain ⟨m, hm⟩ := k0; exact DataW.trod_lt m _ _ _ hm
 obtain ⟨l0, e0, c0, w0⟩ : ∃ l : List S25, len0 = l.length ∧ l.length ≤ cap0 ∧ Kd.C k25 W a0 l.length l := by
  obtain ⟨fuel, hf⟩ := h0
  obtain ⟨A, l, c, hcs, hl, hC⟩ := open_book Tryz.underlying22 hf
  simp [Value.cells] at hcs
  obtain ⟨rfl, rfl, rfl⟩ := hcs
  exact ⟨l, rfl, hl, hC⟩
 subst e0
 obtain ⟨a1, rfl, rfl, rfl, w1⟩ := open_int Tryz.underlying3 (hval 1 3 v1 rfl rfl) h1
 obtain ⟨a2, len2, cap2, rfl⟩ := okWide_slice Tryz.underlying23 (hval 2 23 v2 rfl rfl)
 have k2 := h2
 have lt2 : ∀ x ∈ p2, x.block < W.heap.size := by obtain ⟨m, hm⟩ := k2; exact DataW.trod_lt m _ _ _ hm
 obtain ⟨l2, e2, c2, w2⟩ : ∃ l : List ByteArray, len2 = l.length ∧ l.length ≤ cap2 ∧ Kd.C Kd.string W a2 l.length l := by
  obtain ⟨fuel, hf⟩ := h2
  obtain ⟨A, l, c, hcs, hl, hC⟩ := open_S Tryz.underlying23 hf
  simp [Value.cells] at hcs
  obtain ⟨rfl, rfl, rfl⟩ := hcs
  exact ⟨l, rfl, hl, hC⟩
 subst e2
 obtain ⟨a3, len3, cap3, rfl⟩ := okWide_slice Tryz.underlying37 (hval 3 37 v3 rfl rfl)
 have k3 := h3
 have lt3 : ∀ x ∈ p3, x.block < W.heap.size := by obtain ⟨m, hm⟩ := k3; exact DataW.trod_lt m _ _ _ hm
 obtain ⟨l3, e3, c3, w3⟩ : ∃ l : List Int, len3 = l.length ∧ l.length ≤ cap3 ∧ Kd.C (Kd.int .i64) W a3 l.length l := by
  obtain ⟨fuel, hf⟩ := h3
  obtain ⟨A, l, c, hcs, hl, hC⟩ := open_I Tryz.underlying37 hf
  simp [Value.cells] at hcs
  obtain ⟨rfl, rfl, rfl⟩ := hcs
  exact ⟨l, rfl, hl, hC⟩
 subst e3
 obtain ⟨a4, rfl, rfl, rfl, y4⟩ := open_string Tryz.underlying9 (hval 4 9 v4 rfl rfl) h4
 clear hA0 hval0
 obtain ⟨kk, hkk⟩ := ProtestProofs_true l0 a1 l2 l3 a4
 refine (besomlaw09_ProtestProofs.calls kk a0 cap0 l0 a1 a2 cap2 l2 a3 cap3 l3 a4 true W w0 c0 w2 c2 w3 c3 hkk).mono fun e W' ⟨he, bel⟩ => ?_
 subst he
 exact ⟨_, rfl, _, _, _, [], _, [], hW', trodAll_mk1 (shut_bool Tryz.underlying4 _), (trodAll_cons_mk (Below.trod laidOut (by kernel_rfl) (of_decide_eq_true (by kernel_rfl)) k0 bel lt0) (trodAll_cons_mk (shut_int Tryz.underlying3 w1) (trodAll_cons_mk (Below.trod laidOut (by kernel_rfl) (of_decide_eq_true (by kernel_rfl)) k2 bel lt2) (trodAll_cons_mk (Below.trod laidOut (by kernel_rfl) (of_decide_eq_true (by kernel_rfl)) k3 bel lt3) (trodAll_cons_mk (shut_string Tryz.underlying9 y4) trodAll_mk0))))), rfl, bel.frame _, fun h => by cases h⟩
theorem over : Rows.protestProofsRow.holds Tryz.pinned (OpenSpec.ofChange Rows.protestProofsSpec) :=
 OpenClaim.holds_of_wide 8 Tryz.f8 rfl rfl rfl rfl rfl rfl rfl ⟨rfl, rfl, rfl, rfl, rfl⟩ rfl rfl rfl rfl rfl (by kernel_rfl) Tryz.func8 (by kernel_rfl)
  (of_decide_eq_true (by kernel_rfl)) (by unfold Func.isWrapper; first | (rw [if_pos (by decide +kernel)]; kernel_rfl) | (rw [if_neg (by decide +kernel)]; exact ⟨rfl, rfl⟩))
  (fun os started H enc _ => lifted os started H enc)
theorem proved : Rows.ProtestProofsSaid := over
theorem carded : Rows.ProtestProofsCardSaid :=
 Claim7.holds_tied_plain_at .later [] [.data, .pinned] true (true, "98843cd4e3891271ebdf8b02a3300920f08920e848e48566e9e63e5fe3d60fc8") true proved (fun _ h => by cases h) (by kernel_rfl) (fun _ h => by cases h) protestProofs_row_tie rfl ⟨rfl, rfl⟩ (by kernel_rfl) rfl
  (fun f fn hf hfn => by
   obtain rfl : f = 8 := Option.some.inj ((show Tryz.prog.funcNamed "besom/besomlaw09.ProtestProofs" = some 8 by kernel_rfl).symm.trans hf) |>.symm
   obtain rfl : fn = Tryz.f8 := (Option.some.inj (Tryz.func8.symm.trans hfn)).symm
   exact ⟨by kernel_rfl, fun j t ht => by
    rw [Tryz.params8] at ht
    have hm : t ∈ [22, 3, 23, 37, 9] := by simpa using Array.mem_of_getElem? ht
    have hall : ([22, 3, 23, 37, 9].all fun u => !Tryz.prog.wantsStandIn u) = true := by kernel_rfl
    exact (show Tryz.prog.wantsStandIn t = false by simpa using List.all_eq_true.1 hall t hm)⟩)
  (by kernel_rfl)
end Go.Proofs.YtlhkeohcickiaaaGreatDoor.protestProofs
namespace Go.Proofs.YtlhkeohcickiaaaGreatDoor
theorem protestProofs_card : Rows.ProtestProofsCardSaid := protestProofs.carded
end Go.Proofs.YtlhkeohcickiaaaGreatDoor

