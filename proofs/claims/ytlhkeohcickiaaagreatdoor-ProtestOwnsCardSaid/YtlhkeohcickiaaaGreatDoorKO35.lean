/- LawProtestOwns, part 35 of 40: my texts (walks of the program over sparse frames, plain laws, and texts that print.py printed for this seat), without what the statement does not reach. -/
import Derived.Test.YtlhkeohcickiaaaGreatDoorKO33
import Derived.Test.YtlhkeohcickiaaaGreatDoorKO31
import Derived.Test.YtlhkeohcickiaaaGreatDoorKO32
set_option linter.all false
namespace Go.Proofs.YtlhkeohcickiaaaGreatDoor.E
open Go.RowKit Go.Proofs.YtlhkeohcickiaaaGreatDoor.H Go.Proofs.YtlhkeohcickiaaaGreatDoorW.PrintWords Go.Proofs.YtlhkeohcickiaaaGreatDoorW.PrintLast Go.Proofs.YtlhkeohcickiaaaGreatDoorW.PrintMore
section
open Prot (heldOf derive proveL at_)
def askedErr (l0 : List S25) (ed : Int) (facts : List ByteArray) : Int := match askedOf l0 ed facts with
 | .error p => p.2
 | .ok _ => 0
theorem asked_err {l0 : List S25} {ed : Int} {facts : List ByteArray} {p : Int × Int} (h : askedOf l0 ed facts = .error p) : p.2 ≠ 0 := by
 unfold askedOf at h
 split at h
 ·rename_i q hb
  cases h
  exact bound_err hb
 ·split at h
  ·rename_i q hm
   cases h
   unfold madeOf at hm
   split at hm
   ·cases hm
   ·cases hm; decide
  ·cases h
theorem asked_ok {l0 : List S25} {ed : Int} {facts : List ByteArray} {m : List (ByteArray × Nat)} {o : List Nat} (h : askedOf l0 ed facts = .ok (m, o)) : boundOf l0 = .ok m ∧ madeOf m l0 ed facts = .ok o := by
 unfold askedOf at h
 split at h
 ·cases h
 ·rename_i m' hb
  split at h
  ·cases h
  ·rename_i o' hm
   cases h
   exact ⟨hb, hm⟩
theorem made_fine {l0 : List S25} {ed : Int} {facts : List ByteArray} {m : List (ByteArray × Nat)} {o : List Nat} (h : madeOf m l0 ed facts = .ok o) : risingB facts 64 = true ∧ o = Prot.made (Prot.get m) (topOf m) ed (l0.map toC) facts := by
 unfold madeOf at h
 split at h
 ·rename_i hc
  simp only [Bool.and_eq_true] at hc
  cases h
  exact ⟨hc.2, rfl⟩
 ·cases h
theorem rising_len {l : List ByteArray} {n : Int} (h : risingB l n = true) : (l.length : Int) ≤ n := by
 unfold risingB at h
 simp only [Bool.and_eq_true, decide_eq_true_eq] at h
 exact h.2
theorem asked_eq (l0 : List S25) (ed : Int) (facts : List ByteArray) (k : Nat) (hf : facts.length ≤ 9223372036854775807) (hk : facts.length + 40 < k) : besomref09_asked.f k l0 ed facts = some (askedErr l0 ed facts) := by
 unfold besomref09_asked.f besomref09_Check.f besomref09_Facts.f askedErr askedOf
 simp only [Option.bind_some]
 cases hb : boundOf l0 with
 | error p =>
  have := bound_err hb
  simp [errOf, this]
 | ok m =>
  simp only [errOf, Option.getD_none, ↓reduceIte, in_eq, names_eq _ _ _ hf hk, Option.bind_some]
  unfold madeOf
  cases h1 : (decide (0 ≤ ed) && decide (ed ≤ 1000)) <;> cases h2 : risingB facts 64 <;> simp
theorem make1_eq {l0 : List S25} {ed : Int} {facts : List ByteArray} {m : List (ByteArray × Nat)} {o : List Nat} (h : askedOf l0 ed facts = .ok (m, o)) : besomref09_make1.f l0 ed facts = some (heldOf (l0.map toC) facts o, ints o) := by
 obtain ⟨hb, hm⟩ := asked_ok h
 obtain ⟨hr, ho⟩ := made_fine hm
 have hok := okBook hb
 have hl := rising_len hr
 unfold besomref09_make1.f
 rw [if_pos ⟨hok.len, by omega⟩, hok.lev]
 have e : refOrder m l0 ed facts = o := by
  rw [ho]
  unfold refOrder
  have h2 := (Prot.levels_fits hok.lev).2
  have e1 := Prot.made_top (ed := ed) (t1 := topOf m) (t2 := topOf m + l0.length) facts hok.fit hok.top (by omega)
  have e2 := Prot.made_top (ed := ed) (t1 := l0.length) (t2 := topOf m + l0.length) facts hok.fit (fun c _ => by have := h2 c.thn; simpa using this) (by omega)
  rw [e1, e2]
 simp only [e]
theorem held_length {l0 : List S25} {ed : Int} {facts : List ByteArray} {m : List (ByteArray × Nat)} {o : List Nat} (h : askedOf l0 ed facts = .ok (m, o)) : (heldOf (l0.map toC) facts o).length ≤ 128 ∧ o.length ≤ 64 := by
 obtain ⟨hb, hm⟩ := asked_ok h
 have hok := okBook hb
 have h1 := (made_good hok hm).1.length_le
 have h2 := rising_len (made_fine hm).1
 have h3 := hok.len
 simp only [List.length_map] at h1
 refine ⟨?_, by omega⟩
 rw [held_len]
 omega
end
section
open Prot (heldOf derive proveL at_ stepOk)
theorem wrapM {i : Nat} (h : i < 9223372036854775807) : wrap64 ((i : Int) + 1) = ((i + 1 : Nat) : Int) := by rw [wrap64_of (by omega) (by omega)]; omega
theorem getD_in (l : List ByteArray) (i : Nat) (h : i < l.length) : rdOf ByteArray.empty l (i : Int) = l[i] := by
 rw [rdOf_nat]; simp [List.getD_eq_getElem?_getD, List.getElem?_eq_getElem h]
theorem Same_loop (a b : List ByteArray) (hl : a.length = b.length) (hz : a.length ≤ 9223372036854775807) : ∀ (d k i : Nat), i ≤ a.length → a.length - i = d → d < k → besomref09_Same.l0 k a b (i : Int) = some (decide (a.drop i = b.drop i)) := by
 intro d
 induction d with
 | zero =>
  intro k i h1 h2 h3
  obtain ⟨k, rfl⟩ : ∃ m, k = m + 1 := ⟨k - 1, by omega⟩
  simp only [besomref09_Same.l0]
  rw [if_neg (by omega), List.drop_of_length_le (by omega), List.drop_of_length_le (by omega)]
  rfl
 | succ d ih =>
  intro k i h1 h2 h3
  obtain ⟨k, rfl⟩ : ∃ m, k = m + 1 := ⟨k - 1, by omega⟩
  have ha : i < a.length := by omega
  have hb : i < b.length := by omega
  simp only [besomref09_Same.l0]
  rw [if_pos (by omega), if_pos (by omega), if_pos (by omega), getD_in _ _ ha, getD_in _ _ hb, wrapM (by omega), ih k (i + 1) (by omega) (by omega) (by omega), List.drop_eq_getElem_cons ha, List.drop_eq_getElem_cons hb]
  generalize a[i] = x
  generalize b[i] = y
  generalize List.drop (i + 1) a = s
  generalize List.drop (i + 1) b = t
  by_cases e : x = y
  ·rw [if_pos (by rw [e])]; simp [e]
  ·rw [if_neg (fun h => e ((bytes_inj _ _).1 h))]; simp [e]
theorem Same_eq (a b : List ByteArray) (k : Nat) (hz : a.length ≤ 9223372036854775807) (hk : a.length < k) : besomref09_Same.f k a b = some (decide (a = b)) := by
 unfold besomref09_Same.f
 by_cases h : a.length = b.length
 ·rw [if_pos (by omega)]
  have := Same_loop a b h hz a.length k 0 (by omega) (by omega) hk
  simpa using this
 ·rw [if_neg (by omega)]
  have : ¬ a = b := fun e => h (by rw [e])
  simp [this]
end
section
theorem factsOf_len (l : List ByteArray) : (factsOf l).length ≤ l.length := by
 have := setOf_len l
 unfold factsOf risen
 simpa using this
theorem ins_strict {o : List ByteArray} {x : ByteArray} {j : Nat} (h : Strict o) (h1 : ∀ y ∈ o.take j, ltB y x = true) (h2 : ∀ y ∈ o.drop j, ltB x y = true) : Strict (o.take j ++ ([x] ++ o.drop j)) := by
 have e : Strict (o.take j ++ o.drop j) := by rw [List.take_append_drop]; exact h
 obtain ⟨e1, e2, e3⟩ := List.pairwise_append.1 e
 refine List.pairwise_append.2 ⟨e1, List.pairwise_cons.2 ⟨h2, e2⟩, fun a ha b hb => ?_⟩
 rcases List.mem_cons.1 hb with rfl | hb
 ·exact h1 a ha
 ·exact e3 a ha b hb
theorem facts_has {p : List ByteArray} {x : ByteArray} (h : x ∈ factsOf p) : factsOf (p ++ [x]) = factsOf p := by
 refine factsOf_eq (factsOf_strict p) fun y => ?_
 have h' := mem_factsOf.1 h
 rw [mem_factsOf, List.mem_append, List.mem_singleton]
 exact ⟨.inl, fun k => k.elim id fun e => e ▸ h'⟩
theorem facts_ins {p : List ByteArray} {x : ByteArray} {j : Nat} (h1 : ∀ y ∈ (factsOf p).take j, ltB y x = true) (h2 : ∀ y ∈ (factsOf p).drop j, ltB x y = true) : factsOf (p ++ [x]) = (factsOf p).take j ++ ([x] ++ (factsOf p).drop j) := by
 refine factsOf_eq (ins_strict (factsOf_strict p) h1 h2) fun y => ?_
 have e : y ∈ (factsOf p).take j ∨ y ∈ (factsOf p).drop j ↔ y ∈ p := by
  rw [← List.mem_append, List.take_append_drop, mem_factsOf]
 rw [List.mem_append, List.mem_append, List.mem_append, List.mem_singleton, ← e]
 constructor
 ·rintro (h | h | h) <;> simp [h]
 ·rintro ((h | h) | h) <;> simp [h]
theorem Rising_l1 (l o T : List ByteArray) (i : Nat) (hi : i < l.length) (hl : l.length ≤ 100000) (hol : o.length ≤ 100000) (ho : Strict o) (hT1 : l[i] ∈ o → T = o)
  (hT2 : ∀ j, (∀ y ∈ o.take j, ltB y l[i] = true) → (∀ y ∈ o.drop j, ltB l[i] y = true) → T = o.take j ++ ([l[i]] ++ o.drop j)) (R : List ByteArray) (K : Nat)
  (h0 : ∀ k, K ≤ k → besomref09_Rising.l0 k l T (wrap64 ((i : Int) + 1)) = some R) :
  ∀ (d k j : Nat), j ≤ o.length → o.length - j = d → K + d < k → (∀ y ∈ o.take j, ltB y l[i] = true) → besomref09_Rising.l1 k l o (i : Int) (j : Int) = some R := by
 intro d
 induction d with
 | zero =>
  intro k j h1 h2 h3 h4
  obtain ⟨k, rfl⟩ : ∃ m, k = m + 1 := ⟨k - 1, by omega⟩
  have hj : j = o.length := by omega
  have e := hT2 j h4 (by rw [hj, List.drop_length]; intro y hy; cases hy)
  simp only [besomref09_Rising.l1]
  rw [if_neg (by omega), if_pos (by omega)]
  simp only [Option.bind_some, List.nil_append, List.length_nil, Nat.zero_add, Int.toNat_natCast]
  have z1 : (o.take j).length ≤ 100000 := by rw [List.length_take]; omega
  have z2 : (o.drop j).length ≤ 100000 := by rw [List.length_drop]; omega
  rw [if_pos (by omega), if_pos (by omega), if_pos (by omega), if_pos (by omega), if_pos (by omega), if_pos (by omega), if_pos (by rw [List.length_append]; simp only [List.length_singleton]; omega), getD_in _ _ hi, List.append_assoc, ← e]
  exact h0 k (by omega)
 | succ d ih =>
  intro k j h1 h2 h3 h4
  obtain ⟨k, rfl⟩ : ∃ m, k = m + 1 := ⟨k - 1, by omega⟩
  have hj : j < o.length := by omega
  have hd := List.drop_eq_getElem_cons hj
  simp only [besomref09_Rising.l1]
  rw [if_pos (by omega), if_pos (by omega), if_pos (by omega), if_pos (by omega), getD_in _ _ hi, getD_in _ _ hj]
  by_cases hlt : ltB o[j] l[i] = true
  ·rw [if_pos (show Op.bytesLess o[j].toList l[i].toList = true from hlt), wrapM (by omega)]
   refine ih k (j + 1) (by omega) (by omega) (by omega) fun y hy => ?_
   rw [← List.take_append_getElem hj, List.mem_append, List.mem_singleton] at hy
   rcases hy with hy | rfl
   ·exact h4 y hy
   ·exact hlt
  ·rw [if_neg (show ¬ Op.bytesLess o[j].toList l[i].toList = true from hlt), if_neg (by omega)]
   by_cases he : o[j] = l[i]
   ·rw [if_pos (by rw [he]), ← hT1 (he ▸ List.getElem_mem hj)]
    exact h0 k (by omega)
   ·rw [if_neg (fun h => he ((bytes_inj _ _).1 h))]
    have hgt : ltB l[i] o[j] = true := by
     rcases ltB_tri o[j] l[i] with h | h | h
     ·exact absurd h hlt
     ·exact absurd h he
     ·exact h
    have hdr : Strict (o.drop j) := ho.sublist (List.drop_sublist j o)
    have e := hT2 j h4 (by
     rw [hd] at hdr ⊢
     intro y hy
     rcases List.mem_cons.1 hy with rfl | hy
     ·exact hgt
     ·exact ltB_trans hgt ((List.pairwise_cons.1 hdr).1 y hy))
    simp only [Option.bind_some, List.nil_append, List.length_nil, Nat.zero_add, Int.toNat_natCast]
    have z1 : (o.take j).length ≤ 100000 := by rw [List.length_take]; omega
    have z2 : (o.drop j).length ≤ 100000 := by rw [List.length_drop]; omega
    rw [if_pos (by omega), if_pos (by omega), if_pos (by omega), if_pos (by rw [List.length_append]; simp only [List.length_singleton]; omega), List.append_assoc, ← e]
    exact h0 k (by omega)
def Rk : Nat := 20000
theorem Rk_eq : Rk = 20000 := rfl
theorem Rising_l0 (l : List ByteArray) (hl : l.length ≤ 10000) : ∀ (d k i : Nat), i ≤ l.length → l.length - i = d → d * Rk + 10 < k → besomref09_Rising.l0 k l (factsOf (l.take i)) (i : Int) = some (factsOf l) := by
 intro d
 induction d with
 | zero =>
  intro k i h1 h2 h3
  obtain ⟨k, rfl⟩ : ∃ m, k = m + 1 := ⟨k - 1, by omega⟩
  simp only [besomref09_Rising.l0]
  rw [if_neg (by omega), List.take_of_length_le (by omega)]
 | succ d ih =>
  intro k i h1 h2 h3
  obtain ⟨k, rfl⟩ : ∃ m, k = m + 1 := ⟨k - 1, by omega⟩
  have hR := Rk_eq
  have hS : (d + 1) * Rk = d * Rk + Rk := Nat.succ_mul d Rk
  rw [hS] at h3
  have hi : i < l.length := by omega
  have hT : l.take (i + 1) = l.take i ++ [l[i]] := (List.take_append_getElem hi).symm
  have hlen := factsOf_len (l.take i)
  rw [List.length_take] at hlen
  simp only [besomref09_Rising.l0]
  rw [if_pos (by omega)]
  have := Rising_l1 l (factsOf (l.take i)) (factsOf (l.take (i + 1))) i hi (by omega) (by omega) (factsOf_strict _) (fun h => by rw [hT]; exact facts_has h)
   (fun j h1 h2 => by rw [hT]; exact facts_ins h1 h2) (factsOf l) (d * Rk + 11) (fun k' (hk' : d * Rk + 11 ≤ k') => by rw [wrapM (by omega)]; exact ih k' (i + 1) (by omega) (by omega) (by omega))
   (factsOf (l.take i)).length k 0 (by omega) (by omega) (by omega) (fun y hy => by simp at hy)
  exact this
theorem Rising_eq (l : List ByteArray) (k : Nat) (hl : l.length ≤ 10000) (hk : l.length * 20000 + 10 < k) : besomref09_Rising.f k l = some (factsOf l) := by
 have := Rising_l0 l hl l.length k 0 (by omega) (by omega) (by rw [Rk_eq]; exact hk)
 have e : factsOf (l.take 0) = [] := factsOf_eq List.Pairwise.nil (by simp)
 rw [e] at this
 exact this
end
end Go.Proofs.YtlhkeohcickiaaaGreatDoor.E

