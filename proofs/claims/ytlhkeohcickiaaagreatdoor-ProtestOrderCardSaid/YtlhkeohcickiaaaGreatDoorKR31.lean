/- The card of the statement ProtestOrder is proved, without conditions. -/
import Derived.Test.YtlhkeohcickiaaaGreatDoorKR29
import Derived.Test.YtlhkeohcickiaaaGreatDoorKR15
import Derived.Test.YtlhkeohcickiaaaGreatDoorKR30
import Derived.Test.YtlhkeohcickiaaaGreatDoorKR17
import Derived.Test.YtlhkeohcickiaaaGreatDoorKR28
import Derived.Test.YtlhkeohcickiaaaGreatDoorKR26
import Derived.Test.YtlhkeohcickiaaaGreatDoorKR27
import Derived.Test.YtlhkeohcickiaaaGreatDoorKR24
import Derived.Test.YtlhkeohcickiaaaGreatDoorKR18
import Derived.WalkSpells
import Derived.IntWalk
import Derived.Deep.Slices
import Derived.Deep.Strs
import Derived.ChangeSlices
import Derived.DataElems
import Derived.Test.YtlhkeohcickiaaaGreatDoorRows
import Derived.Test.YtlhkeohcickiaaaGreatDoorTie
import Derived.Test.YtlhkeohcickiaaaGreatDoorCards
import Derived.WalkKit
import Derived.ProofKit
import Derived.OpenShut
import Derived.ShutString
import Derived.ChangeOld
import Derived.Below
import Derived.SizedLaws
import Derived.SevenTiedAt
import Derived.LaidMore
import Derived.Lay
import Derived.Stop.Joined
set_option linter.all false
namespace Go.Proofs.YtlhkeohcickiaaaGreatDoor.E
open Go.RowKit Go.Proofs.YtlhkeohcickiaaaGreatDoor.H Go.Proofs.YtlhkeohcickiaaaGreatDoorW.PrintWords Go.Proofs.YtlhkeohcickiaaaGreatDoorW.PrintLast Go.Proofs.YtlhkeohcickiaaaGreatDoorW.PrintMore
section
open Prot (heldOf derive proveL at_ stepOk)
theorem wrapN {i : Nat} (h : i < 9223372036854775807) : wrap64 ((i : Int) + 1) = ((i + 1 : Nat) : Int) := by rw [wrap64_of (by omega) (by omega)]; omega
end
section
open Prot (heldOf derive proveL at_ stepOk)
theorem great_l1 (l0 : List S25) (l : List ByteArray) (x5 : Int) : ∀ (d i : Nat), i ≤ 100 → 100 - i = d → ∃ b, (∀ k, 2 * d + 4 < k → besomlaw09_great.l1 k l0 l x5 (i : Int) = some b) ∧ (b = false → l0.length ≤ 70 ∧ l.length ≤ 70) := by
 have fin : ∃ b, (∀ k i, 0 < k → besomlaw09_great.j3 k l0 l x5 i false = some b) ∧ (b = false → l0.length ≤ 70 ∧ l.length ≤ 70) := by
  by_cases h1 : (l0.length : Int) > 70
  ·refine ⟨true, fun k i hk => ?_, by simp⟩
   obtain ⟨k, rfl⟩ : ∃ m, k = m + 1 := ⟨k - 1, by omega⟩
   simp only [besomlaw09_great.j3]
   rw [if_neg (by decide), if_pos h1]
  ·by_cases h2 : (l.length : Int) > 70
   ·refine ⟨true, fun k i hk => ?_, by simp⟩
    obtain ⟨k, rfl⟩ : ∃ m, k = m + 1 := ⟨k - 1, by omega⟩
    simp only [besomlaw09_great.j3]
    rw [if_neg (by decide), if_neg h1, if_pos h2]
   ·refine ⟨decide (x5 > 300), fun k i hk => ?_, fun _ => by omega⟩
    obtain ⟨k, rfl⟩ : ∃ m, k = m + 1 := ⟨k - 1, by omega⟩
    simp only [besomlaw09_great.j3]
    rw [if_neg (by decide), if_neg h1, if_neg h2]
 obtain ⟨b0, f1, f2⟩ := fin
 intro d
 induction d with
 | zero =>
  intro i h1 h2
  refine ⟨b0, fun k hk => ?_, f2⟩
  obtain ⟨k, rfl⟩ : ∃ m, k = m + 1 := ⟨k - 1, by omega⟩
  simp only [besomlaw09_great.l1]
  split
  ·rw [show decide ((i : Int) < 100) = false from decide_eq_false (by omega), f1 k _ (by omega)]
  ·rw [f1 k _ (by omega)]
 | succ d ih =>
  intro i h1 h2
  by_cases hi : i < l.length
  ·by_cases hz : ((rdOf ByteArray.empty l (i : Int)).size : Int) > 100
   ·refine ⟨true, fun k hk => ?_, by simp⟩
    obtain ⟨k, rfl⟩ : ∃ m, k = m + 2 := ⟨k - 2, by omega⟩
    simp only [besomlaw09_great.l1]
    rw [if_pos (by omega), show decide ((i : Int) < 100) = true from decide_eq_true (by omega)]
    simp only [besomlaw09_great.j3]
    simp only [↓reduceIte]
    rw [if_pos (by omega), if_pos (by omega), if_pos hz]
   ·obtain ⟨b, g1, g2⟩ := ih (i + 1) (by omega) (by omega)
    refine ⟨b, fun k hk => ?_, g2⟩
    obtain ⟨k, rfl⟩ : ∃ m, k = m + 2 := ⟨k - 2, by omega⟩
    simp only [besomlaw09_great.l1]
    rw [if_pos (by omega), show decide ((i : Int) < 100) = true from decide_eq_true (by omega)]
    simp only [besomlaw09_great.j3]
    simp only [↓reduceIte]
    rw [if_pos (by omega), if_pos (by omega), if_neg hz, wrapN (by omega), g1 k (by omega)]
  ·refine ⟨b0, fun k hk => ?_, f2⟩
   obtain ⟨k, rfl⟩ : ∃ m, k = m + 1 := ⟨k - 1, by omega⟩
   simp only [besomlaw09_great.l1]
   rw [if_neg (by omega), f1 k _ (by omega)]
theorem great_l0 (l0 : List S25) (l : List ByteArray) : ∀ (d i : Nat) (x5 : Int), i ≤ 100 → 100 - i = d → ∃ b, (∀ k, d + 300 < k → besomlaw09_great.l0 k l0 l x5 (i : Int) = some b) ∧ (b = false → l0.length ≤ 70 ∧ l.length ≤ 70) := by
 have fin : ∀ x5 : Int, ∃ b, (∀ k, 250 < k → besomlaw09_great.j1 k l0 l x5 = some b) ∧ (b = false → l0.length ≤ 70 ∧ l.length ≤ 70) := fun x5 => by
  obtain ⟨b, g1, g2⟩ := great_l1 l0 l x5 100 0 (by omega) (by omega)
  refine ⟨b, fun k hk => ?_, g2⟩
  obtain ⟨k, rfl⟩ : ∃ m, k = m + 1 := ⟨k - 1, by omega⟩
  simp only [besomlaw09_great.j1]
  exact g1 k (by omega)
 intro d
 induction d with
 | zero =>
  intro i x5 h1 h2
  obtain ⟨b0, f1, f2⟩ := fin x5
  refine ⟨b0, fun k hk => ?_, f2⟩
  obtain ⟨k, rfl⟩ : ∃ m, k = m + 1 := ⟨k - 1, by omega⟩
  simp only [besomlaw09_great.l0]
  split
  ·rw [if_neg (by omega), f1 k (by omega)]
  ·rw [f1 k (by omega)]
 | succ d ih =>
  intro i x5 h1 h2
  by_cases hi : (i : Int) < (l0.length : Int)
  ·obtain ⟨b, g1, g2⟩ := ih (i + 1) (wrap64 ((wrap64 ((wrap64 (x5 + (((rd_T25 l0 (i : Int)).f3).length : Int))) + (((rd_T25 l0 (i : Int)).f4).length : Int))) + (wrap64 (Int.tdiv (wrap64 ((((rd_T25 l0 (i : Int)).f0).size : Int) + (((rd_T25 l0 (i : Int)).f5).size : Int))) 50)))) (by omega) (by omega)
   refine ⟨b, fun k hk => ?_, g2⟩
   obtain ⟨k, rfl⟩ : ∃ m, k = m + 1 := ⟨k - 1, by omega⟩
   simp only [besomlaw09_great.l0]
   rw [if_pos hi, if_pos (by omega), if_pos (by omega), wrapN (by omega), g1 k (by omega)]
  ·obtain ⟨b0, f1, f2⟩ := fin x5
   refine ⟨b0, fun k hk => ?_, f2⟩
   obtain ⟨k, rfl⟩ : ∃ m, k = m + 1 := ⟨k - 1, by omega⟩
   simp only [besomlaw09_great.l0]
   rw [if_neg hi, f1 k (by omega)]
theorem great_ex (l0 : List S25) (l : List ByteArray) : ∃ b, (∀ k, 400 < k → besomlaw09_great.f k l0 l = some b) ∧ (b = false → l0.length ≤ 70 ∧ l.length ≤ 70) := by
 obtain ⟨b, g1, g2⟩ := great_l0 l0 l 100 0 (l.length : Int) (by omega) (by omega)
 exact ⟨b, fun k hk => g1 k (by omega), g2⟩
end
section
section
variable {P : Program} {N : Nat} {ds : List Deferred} {Q : Exit → Act → World → Prop} {Pn : List PanicEntry → World → Prop} {ops : List Oper} {l : Slots} {w : World} {K : Slots → World → Prop}
theorem fin (hK : ∀ l' w', (∀ a', Fr N ds l' a' → Q .normal a' w') → K l' w') (l2 : Slots) (hs : Sub l l2) (h : ∀ a', Fr N ds l2 a' → Q .normal a' w) : OpsK P N Pn ops [] l w K := hK _ _ fun a' hf => h a' (hf.sub hs)
end
theorem at_later {w W : World} {A : Option Addr} {n : Nat} {xs : List S25} (h : Kd.C k25 w A n xs) (hb : Below w.heap.size w W) (i : Int) (h0 : 0 ≤ i) (h1 : i < n) : ∃ ad A3 c3 A4 c4, A = some ad ∧ W.cell? (ad.add (i.toNat * 6)) = some (.string (rd_T25 xs i).f0) ∧ W.cell? ⟨(ad.add (i.toNat * 6)).block, (ad.add (i.toNat * 6)).off + 1, none⟩ = some (.int .i64 (rd_T25 xs i).f1) ∧ W.cell? ⟨(ad.add (i.toNat * 6)).block, (ad.add (i.toNat * 6)).off + 2, none⟩ = some (.int .i64 (rd_T25 xs i).f2) ∧
  W.cell? ⟨(ad.add (i.toNat * 6)).block, (ad.add (i.toNat * 6)).off + 3, none⟩ = some (.slice A3 (rd_T25 xs i).f3.length c3) ∧ W.cell? ⟨(ad.add (i.toNat * 6)).block, (ad.add (i.toNat * 6)).off + 4, none⟩ = some (.slice A4 (rd_T25 xs i).f4.length c4) ∧ W.cell? ⟨(ad.add (i.toNat * 6)).block, (ad.add (i.toNat * 6)).off + 5, none⟩ = some (.string (rd_T25 xs i).f5) ∧
  (rd_T25 xs i).f3.length ≤ c3 ∧ Kd.string.C w A3 (rd_T25 xs i).f3.length (rd_T25 xs i).f3 ∧ (rd_T25 xs i).f4.length ≤ c4 ∧ Kd.string.C w A4 (rd_T25 xs i).f4.length (rd_T25 xs i).f4 := by
 obtain ⟨ad, A3, c3, A4, c4, e, x0, x1, x2, x3, x4, x5, l3, g3, l4, g4⟩ := at_T25 h i h0 h1
 exact ⟨ad, A3, c3, A4, c4, e, cell_later hb x0, cell_later hb x1, cell_later hb x2, cell_later hb x3, cell_later hb x4, cell_later hb x5, l3, g3, l4, g4⟩
theorem bt {A B C : World} (h : Below A.heap.size A B) (k : Below B.heap.size B C) : Below A.heap.size A C := below_then h h.size k
theorem bd {A B C : World} (h : Below A.heap.size A B) (k : Drawn0 B C) : Below A.heap.size A C := below_then h h.size k.below
theorem great_call (A0 : Option Addr) (c0 : Nat) (l0 : List S25) (A1 : Option Addr) (c1 : Nat) (l1 : List ByteArray) (w : World) (hr0 : Kd.C k25 w A0 l0.length l0) (hc0 : l0.length ≤ c0) (hr1 : Kd.C Kd.string w A1 l1.length l1) (hc1 : l1.length ≤ c1) :
  Calls Tryz.prog 10 #[.slice A0 l0.length c0, .slice A1 l1.length c1] w fun e w' => ∃ b, e = .returned (.bool b) ∧ (b = false → l0.length ≤ 70 ∧ l1.length ≤ 70) ∧ Below w.heap.size w w' := by
 obtain ⟨b, g1, g2⟩ := great_ex l0 l1
 exact (besomlaw09_great.calls 401 A0 c0 l0 A1 c1 l1 b w hr0 hc0 hr1 hc1 (g1 401 (by omega))).mono fun e w' ⟨h1, h2⟩ => ⟨b, h1, g2, h2.below⟩
end
section
open Prot (heldOf derive proveL at_ stepOk)
theorem wrapM {i : Nat} (h : i < 9223372036854775807) : wrap64 ((i : Int) + 1) = ((i + 1 : Nat) : Int) := by rw [wrap64_of (by omega) (by omega)]; omega
theorem getD_in (l : List ByteArray) (i : Nat) (h : i < l.length) : rdOf ByteArray.empty l (i : Int) = l[i] := by
 rw [rdOf_nat]; simp [List.getD_eq_getElem?_getD, List.getElem?_eq_getElem h]
theorem Same_loop (a b : List ByteArray) (hl : a.length = b.length) (hz : a.length ≤ 9223372036854775807) : ∀ (d k i : Nat), i ≤ a.length → a.length - i = d → d < k → besomref09_Same.l0 k a b (i : Int) = some (decide (a.drop i = b.drop i)) := by
 intro d
 induction d with
 | zero =>
  intro k i h1 h2 h3
  obtain ⟨k, rfl⟩ : ∃ m, k = m + 1 := ⟨k - 1, by omega⟩
  simp only [besomref09_Same.l0]
  rw [if_neg (by omega), List.drop_of_length_le (by omega), List.drop_of_length_le (by omega)]
  rfl
 | succ d ih =>
  intro k i h1 h2 h3
  obtain ⟨k, rfl⟩ : ∃ m, k = m + 1 := ⟨k - 1, by omega⟩
  have ha : i < a.length := by omega
  have hb : i < b.length := by omega
  simp only [besomref09_Same.l0]
  rw [if_pos (by omega), if_pos (by omega), if_pos (by omega), getD_in _ _ ha, getD_in _ _ hb, wrapM (by omega), ih k (i + 1) (by omega) (by omega) (by omega), List.drop_eq_getElem_cons ha, List.drop_eq_getElem_cons hb]
  generalize a[i] = x
  generalize b[i] = y
  generalize List.drop (i + 1) a = s
  generalize List.drop (i + 1) b = t
  by_cases e : x = y
  ·rw [if_pos (by rw [e])]; simp [e]
  ·rw [if_neg (fun h => e ((bytes_inj _ _).1 h))]; simp [e]
theorem Same_eq (a b : List ByteArray) (k : Nat) (hz : a.length ≤ 9223372036854775807) (hk : a.length < k) : besomref09_Same.f k a b = some (decide (a = b)) := by
 unfold besomref09_Same.f
 by_cases h : a.length = b.length
 ·rw [if_pos (by omega)]
  have := Same_loop a b h hz a.length k 0 (by omega) (by omega) hk
  simpa using this
 ·rw [if_neg (by omega)]
  have : ¬ a = b := fun e => h (by rw [e])
  simp [this]
theorem Less_loop (a b : List ByteArray) (hb : b.length ≤ 100000) (hz : a.length ≤ 100000) : ∀ (d k i : Nat) (o : List ByteArray), i ≤ a.length → a.length - i = d → d + b.length + 1 < k → o.length + d ≤ 200000 →
  besomref09_Less.l0 k a b o (i : Int) = some (o ++ (a.drop i).filter fun s => !decide (s ∈ b)) := by
 intro d
 induction d with
 | zero =>
  intro k i o h1 h2 h3 h4
  obtain ⟨k, rfl⟩ : ∃ m, k = m + 1 := ⟨k - 1, by omega⟩
  simp only [besomref09_Less.l0]
  rw [if_neg (by omega), List.drop_of_length_le (by omega)]
  simp
 | succ d ih =>
  intro k i o h1 h2 h3 h4
  obtain ⟨k, rfl⟩ : ∃ m, k = m + 1 := ⟨k - 1, by omega⟩
  have ha : i < a.length := by omega
  simp only [besomref09_Less.l0]
  rw [if_pos (by omega), if_pos (by omega), getD_in _ _ ha, Has_eq _ _ _ (by omega) (by omega), Option.bind_some, wrapM (by omega), List.drop_eq_getElem_cons ha]
  by_cases e : a[i] ∈ b
  ·rw [if_pos (by simpa using e), ih k (i + 1) o (by omega) (by omega) (by omega) (by omega)]
   rw [List.filter_cons_of_neg (by simpa using e)]
  ·rw [if_neg (by simpa using e), if_pos (by omega), ih k (i + 1) _ (by omega) (by omega) (by omega) (by simp; omega)]
   rw [List.filter_cons_of_pos (by simpa using e)]
   simp
theorem Less_eq (a b : List ByteArray) (k : Nat) (hb : b.length ≤ 100000) (hz : a.length ≤ 100000) (hk : a.length + b.length + 1 < k) : besomref09_Less.f k a b = some (a.filter fun s => !decide (s ∈ b)) := by
 have := Less_loop a b hb hz a.length k 0 [] (by omega) (by omega) (by omega) (by simp; omega)
 simpa [besomref09_Less.f] using this
end
section
theorem factsOf_len (l : List ByteArray) : (factsOf l).length ≤ l.length := by
 have := setOf_len l
 unfold factsOf risen
 simpa using this
theorem ins_strict {o : List ByteArray} {x : ByteArray} {j : Nat} (h : Strict o) (h1 : ∀ y ∈ o.take j, ltB y x = true) (h2 : ∀ y ∈ o.drop j, ltB x y = true) : Strict (o.take j ++ ([x] ++ o.drop j)) := by
 have e : Strict (o.take j ++ o.drop j) := by rw [List.take_append_drop]; exact h
 obtain ⟨e1, e2, e3⟩ := List.pairwise_append.1 e
 refine List.pairwise_append.2 ⟨e1, List.pairwise_cons.2 ⟨h2, e2⟩, fun a ha b hb => ?_⟩
 rcases List.mem_cons.1 hb with rfl | hb
 ·exact h1 a ha
 ·exact e3 a ha b hb
theorem facts_has {p : List ByteArray} {x : ByteArray} (h : x ∈ factsOf p) : factsOf (p ++ [x]) = factsOf p := by
 refine factsOf_eq (factsOf_strict p) fun y => ?_
 have h' := mem_factsOf.1 h
 rw [mem_factsOf, List.mem_append, List.mem_singleton]
 exact ⟨.inl, fun k => k.elim id fun e => e ▸ h'⟩
theorem facts_ins {p : List ByteArray} {x : ByteArray} {j : Nat} (h1 : ∀ y ∈ (factsOf p).take j, ltB y x = true) (h2 : ∀ y ∈ (factsOf p).drop j, ltB x y = true) : factsOf (p ++ [x]) = (factsOf p).take j ++ ([x] ++ (factsOf p).drop j) := by
 refine factsOf_eq (ins_strict (factsOf_strict p) h1 h2) fun y => ?_
 have e : y ∈ (factsOf p).take j ∨ y ∈ (factsOf p).drop j ↔ y ∈ p := by
  rw [← List.mem_append, List.take_append_drop, mem_factsOf]
 rw [List.mem_append, List.mem_append, List.mem_append, List.mem_singleton, ← e]
 constructor
 ·rintro (h | h | h) <;> simp [h]
 ·rintro ((h | h) | h) <;> simp [h]
theorem Rising_l1 (l o T : List ByteArray) (i : Nat) (hi : i < l.length) (hl : l.length ≤ 100000) (hol : o.length ≤ 100000) (ho : Strict o) (hT1 : l[i] ∈ o → T = o)
  (hT2 : ∀ j, (∀ y ∈ o.take j, ltB y l[i] = true) → (∀ y ∈ o.drop j, ltB l[i] y = true) → T = o.take j ++ ([l[i]] ++ o.drop j)) (R : List ByteArray) (K : Nat)
  (h0 : ∀ k, K ≤ k → besomref09_Rising.l0 k l T (wrap64 ((i : Int) + 1)) = some R) :
  ∀ (d k j : Nat), j ≤ o.length → o.length - j = d → K + d < k → (∀ y ∈ o.take j, ltB y l[i] = true) → besomref09_Rising.l1 k l o (i : Int) (j : Int) = some R := by
 intro d
 induction d with
 | zero =>
  intro k j h1 h2 h3 h4
  obtain ⟨k, rfl⟩ : ∃ m, k = m + 1 := ⟨k - 1, by omega⟩
  have hj : j = o.length := by omega
  have e := hT2 j h4 (by rw [hj, List.drop_length]; intro y hy; cases hy)
  simp only [besomref09_Rising.l1]
  rw [if_neg (by omega), if_pos (by omega)]
  simp only [Option.bind_some, List.nil_append, List.length_nil, Nat.zero_add, Int.toNat_natCast]
  have z1 : (o.take j).length ≤ 100000 := by rw [List.length_take]; omega
  have z2 : (o.drop j).length ≤ 100000 := by rw [List.length_drop]; omega
  rw [if_pos (by omega), if_pos (by omega), if_pos (by omega), if_pos (by omega), if_pos (by omega), if_pos (by omega), if_pos (by rw [List.length_append]; simp only [List.length_singleton]; omega), getD_in _ _ hi, List.append_assoc, ← e]
  exact h0 k (by omega)
 | succ d ih =>
  intro k j h1 h2 h3 h4
  obtain ⟨k, rfl⟩ : ∃ m, k = m + 1 := ⟨k - 1, by omega⟩
  have hj : j < o.length := by omega
  have hd := List.drop_eq_getElem_cons hj
  simp only [besomref09_Rising.l1]
  rw [if_pos (by omega), if_pos (by omega), if_pos (by omega), if_pos (by omega), getD_in _ _ hi, getD_in _ _ hj]
  by_cases hlt : ltB o[j] l[i] = true
  ·rw [if_pos (show Op.bytesLess o[j].toList l[i].toList = true from hlt), wrapM (by omega)]
   refine ih k (j + 1) (by omega) (by omega) (by omega) fun y hy => ?_
   rw [← List.take_append_getElem hj, List.mem_append, List.mem_singleton] at hy
   rcases hy with hy | rfl
   ·exact h4 y hy
   ·exact hlt
  ·rw [if_neg (show ¬ Op.bytesLess o[j].toList l[i].toList = true from hlt), if_neg (by omega)]
   by_cases he : o[j] = l[i]
   ·rw [if_pos (by rw [he]), ← hT1 (he ▸ List.getElem_mem hj)]
    exact h0 k (by omega)
   ·rw [if_neg (fun h => he ((bytes_inj _ _).1 h))]
    have hgt : ltB l[i] o[j] = true := by
     rcases ltB_tri o[j] l[i] with h | h | h
     ·exact absurd h hlt
     ·exact absurd h he
     ·exact h
    have hdr : Strict (o.drop j) := ho.sublist (List.drop_sublist j o)
    have e := hT2 j h4 (by
     rw [hd] at hdr ⊢
     intro y hy
     rcases List.mem_cons.1 hy with rfl | hy
     ·exact hgt
     ·exact ltB_trans hgt ((List.pairwise_cons.1 hdr).1 y hy))
    simp only [Option.bind_some, List.nil_append, List.length_nil, Nat.zero_add, Int.toNat_natCast]
    have z1 : (o.take j).length ≤ 100000 := by rw [List.length_take]; omega
    have z2 : (o.drop j).length ≤ 100000 := by rw [List.length_drop]; omega
    rw [if_pos (by omega), if_pos (by omega), if_pos (by omega), if_pos (by rw [List.length_append]; simp only [List.length_singleton]; omega), List.append_assoc, ← e]
    exact h0 k (by omega)
def Rk : Nat := 20000
theorem Rk_eq : Rk = 20000 := rfl
theorem Rising_l0 (l : List ByteArray) (hl : l.length ≤ 10000) : ∀ (d k i : Nat), i ≤ l.length → l.length - i = d → d * Rk + 10 < k → besomref09_Rising.l0 k l (factsOf (l.take i)) (i : Int) = some (factsOf l) := by
 intro d
 induction d with
 | zero =>
  intro k i h1 h2 h3
  obtain ⟨k, rfl⟩ : ∃ m, k = m + 1 := ⟨k - 1, by omega⟩
  simp only [besomref09_Rising.l0]
  rw [if_neg (by omega), List.take_of_length_le (by omega)]
 | succ d ih =>
  intro k i h1 h2 h3
  obtain ⟨k, rfl⟩ : ∃ m, k = m + 1 := ⟨k - 1, by omega⟩
  have hR := Rk_eq
  have hS : (d + 1) * Rk = d * Rk + Rk := Nat.succ_mul d Rk
  rw [hS] at h3
  have hi : i < l.length := by omega
  have hT : l.take (i + 1) = l.take i ++ [l[i]] := (List.take_append_getElem hi).symm
  have hlen := factsOf_len (l.take i)
  rw [List.length_take] at hlen
  simp only [besomref09_Rising.l0]
  rw [if_pos (by omega)]
  have := Rising_l1 l (factsOf (l.take i)) (factsOf (l.take (i + 1))) i hi (by omega) (by omega) (factsOf_strict _) (fun h => by rw [hT]; exact facts_has h)
   (fun j h1 h2 => by rw [hT]; exact facts_ins h1 h2) (factsOf l) (d * Rk + 11) (fun k' (hk' : d * Rk + 11 ≤ k') => by rw [wrapM (by omega)]; exact ih k' (i + 1) (by omega) (by omega) (by omega))
   (factsOf (l.take i)).length k 0 (by omega) (by omega) (by omega) (fun y hy => by simp at hy)
  exact this
theorem Rising_eq (l : List ByteArray) (k : Nat) (hl : l.length ≤ 10000) (hk : l.length * 20000 + 10 < k) : besomref09_Rising.f k l = some (factsOf l) := by
 have := Rising_l0 l hl l.length k 0 (by omega) (by omega) (by rw [Rk_eq]; exact hk)
 have e : factsOf (l.take 0) = [] := factsOf_eq List.Pairwise.nil (by simp)
 rw [e] at this
 exact this
end
section
open Prot (heldOf derive proveL at_ stepOk thens)
theorem asked_model {l0 : List S25} {ed : Int} {facts : List ByteArray} {m : List (ByteArray × Nat)} {o : List Nat} (h : askedOf l0 ed facts = .ok (m, o)) : Prot.Model ed (l0.map toC) facts o :=
 have h' := asked_ok h
 model_of h'.1 h'.2
theorem prot_holds_ok {l0 : List S25} {ed : Int} {facts : List ByteArray} {m : List (ByteArray × Nat)} {o : List Nat} (h : askedOf l0 ed facts = .ok (m, o)) : protest_Holds.f l0 ed facts = some (factsOf (heldOf (l0.map toC) facts o), 0) := by
 unfold protest_Holds.f holdsOf
 rw [h]
theorem prot_holds_err {l0 : List S25} {ed : Int} {facts : List ByteArray} {p : Int × Int} (h : askedOf l0 ed facts = .error p) : protest_Holds.f l0 ed facts = some ([], p.2) := by
 unfold protest_Holds.f holdsOf
 rw [h]
theorem filter_none {l b : List ByteArray} (h : ∀ x ∈ l, x ∈ b) : (l.filter fun s => !decide (s ∈ b)) = [] := by
 rw [List.filter_eq_nil_iff]
 intro x hx
 simp [h x hx]
end
section
open Prot (heldOf standsB)
theorem firstBad_of : ∀ (l : List S25) (i : Nat), (∀ x ∈ l, okC x = true) → firstBad l i = none
 | [], _, _ => rfl
 | y :: l, i, h => by
  simp only [firstBad]
  rw [if_pos (h y List.mem_cons_self)]
  exact firstBad_of l _ fun x hx => h x (List.mem_cons_of_mem _ hx)
theorem bound_sub {l0 l1 : List S25} {m : List (ByteArray × Nat)} (h : boundOf l0 = .ok m) (hs : ∀ x ∈ l1, x ∈ l0) (hl : l1.length ≤ l0.length) : ∃ m', boundOf l1 = .ok m' := by
 have hok := okBook h
 have hfit : Prot.Fits (Prot.get m) (l1.map toC) := fun c hc => by
  obtain ⟨x, hx, rfl⟩ := List.mem_map.1 hc
  exact hok.fit _ (List.mem_map_of_mem (hs x hx))
 obtain ⟨m', hm'⟩ := Prot.levels_of_fits hfit
 have := hok.len
 unfold boundOf
 rw [if_neg (by omega), firstBad_of l1 0 fun x hx => hok.ok x (hs x hx)]
 simp only [hm']
 exact ⟨_, rfl⟩
theorem asked_sub {l0 l1 : List S25} {ed : Int} {facts : List ByteArray} {m : List (ByteArray × Nat)} {o : List Nat} (h : askedOf l0 ed facts = .ok (m, o)) (hs : ∀ x ∈ l1, x ∈ l0) (hl : l1.length ≤ l0.length) : ∃ m' o', askedOf l1 ed facts = .ok (m', o') := by
 obtain ⟨hb, hm⟩ := asked_ok h
 obtain ⟨m', hm'⟩ := bound_sub hb hs hl
 unfold askedOf
 rw [hm']
 unfold madeOf at hm ⊢
 split at hm
 ·rename_i hc
  simp only [hc, if_true]
  exact ⟨_, _, rfl⟩
 ·cases hm
theorem same_facts {l0 l1 : List S25} {ed : Int} {facts : List ByteArray} {m m' : List (ByteArray × Nat)} {o o' : List Nat} (h0 : askedOf l0 ed facts = .ok (m, o)) (h1 : askedOf l1 ed facts = .ok (m', o')) (hb : ∀ x : S25, standsB ed (toC x) = true → (x ∈ l0 ↔ x ∈ l1)) :
  factsOf (heldOf (l1.map toC) facts o') = factsOf (heldOf (l0.map toC) facts o) := by
 refine factsOf_eq (factsOf_strict _) fun x => mem_factsOf.trans ?_
 refine Prot.model_same (asked_model h0) (asked_model h1) (Prot.get m) (fun c hc _ => (okBook (asked_ok h0).1).fit c hc) (fun c hc => ?_) (fun _ => Iff.rfl) _ x (Nat.le_refl _)
 constructor
 ·intro h
  obtain ⟨y, hy, rfl⟩ := List.mem_map.1 h
  exact List.mem_map_of_mem ((hb y hc).1 hy)
 ·intro h
  obtain ⟨y, hy, rfl⟩ := List.mem_map.1 h
  exact List.mem_map_of_mem ((hb y hc).2 hy)
theorem more_facts {l : List S25} {ed : Int} {f1 f2 : List ByteArray} {m m' : List (ByteArray × Nat)} {o o' : List Nat} (h1 : askedOf l ed f1 = .ok (m, o)) (h2 : askedOf l ed f2 = .ok (m', o')) (hu : ∀ x ∈ l, x.f4 = []) (hf : ∀ x ∈ f1, x ∈ f2) :
  ∀ x ∈ factsOf (heldOf (l.map toC) f1 o), x ∈ factsOf (heldOf (l.map toC) f2 o') := fun x hx =>
 mem_factsOf.2 (Prot.model_more (asked_model h1) (asked_model h2) (fun c hc => by
  obtain ⟨y, hy, rfl⟩ := List.mem_map.1 hc
  exact hu y hy) hf x (mem_factsOf.1 hx))
theorem order_plain (l0 : List S25) (ed : Int) (l2 : List ByteArray) (more : ByteArray) (hs : List ByteArray) (h : protest_Holds.f l0 ed l2 = some (hs, 0)) : hs.length ≤ 128 ∧
  protest_Holds.f l0.reverse ed l2 = some (hs, 0) ∧ protest_Holds.f (l0.filter fun x => standsB ed (toC x)) ed l2 = some (hs, 0) ∧
  ∃ c d i, protest_Holds.f (l0.filter fun x => decide (x.f4.length = 0)) ed l2 = some (c, 0) ∧ protest_Holds.f (l0.filter fun x => decide (x.f4.length = 0)) ed (factsOf (l2 ++ [more])) = some (d, i) ∧ c.length ≤ 128 ∧ d.length ≤ 128 ∧ (i = 0 → ∀ x ∈ c, x ∈ d) := by
 cases ha : askedOf l0 ed l2 with
 | error p =>
  rw [prot_holds_err ha] at h
  have := asked_err ha
  simp at h
  exact absurd h.2 this
 | ok mo =>
  obtain ⟨m, o⟩ := mo
  rw [prot_holds_ok ha] at h
  obtain rfl : factsOf (heldOf (l0.map toC) l2 o) = hs := by simpa using h
  obtain ⟨m1, o1, h1⟩ := asked_sub (l1 := l0.reverse) ha (fun x hx => List.mem_reverse.1 hx) (by simp)
  obtain ⟨m2, o2, h2⟩ := asked_sub (l1 := l0.filter fun x => standsB ed (toC x)) ha (fun x hx => (List.mem_filter.1 hx).1) (List.length_filter_le _ _)
  obtain ⟨m3, o3, h3⟩ := asked_sub (l1 := l0.filter fun x => decide (x.f4.length = 0)) ha (fun x hx => (List.mem_filter.1 hx).1) (List.length_filter_le _ _)
  refine ⟨Nat.le_trans (factsOf_length _) (held_length ha).1, ?_, ?_, ?_⟩
  ·rw [prot_holds_ok h1, same_facts ha h1 fun x _ => List.mem_reverse.symm]
  ·rw [prot_holds_ok h2, same_facts ha h2 fun x hx => by rw [List.mem_filter]; exact ⟨fun h => ⟨h, hx⟩, fun h => h.1⟩]
  ·have hf : ∀ x ∈ l2, x ∈ factsOf (l2 ++ [more]) := fun x hx => mem_factsOf.2 (List.mem_append_left _ hx)
   cases h4 : askedOf (l0.filter fun x => decide (x.f4.length = 0)) ed (factsOf (l2 ++ [more])) with
   | error p => exact ⟨_, _, _, prot_holds_ok h3, prot_holds_err h4, Nat.le_trans (factsOf_length _) (held_length h3).1, by simp, fun e => absurd e (asked_err h4)⟩
   | ok mo =>
    obtain ⟨m4, o4⟩ := mo
    refine ⟨_, _, _, prot_holds_ok h3, prot_holds_ok h4, Nat.le_trans (factsOf_length _) (held_length h3).1, Nat.le_trans (factsOf_length _) (held_length h4).1, fun _ => more_facts h3 h4 (fun x hx => ?_) hf⟩
    have := (List.mem_filter.1 hx).2
    simpa using this
end
section
open Prot (heldOf derive at_ whyR)
attribute [local go_sem] slk sget sput uponK_value uponK_skip uponK_enter
theorem spread_ints {W : World} (base : Nat) (v : Value) (xs ys : List Int) (hown : W.ownsRow base 3 1 v xs.length (xs.map (Value.int .i64))) (A : Option Addr) (c : Nat) (hr : Kd.C (Kd.int .i64) W A ys.length ys) (hbase : base ≤ W.heap.size) (hl : xs.length + ys.length ≤ 1000) (hv : ∃ A c, v = .slice A xs.length c ∧ xs.length ≤ c) :
  ∃ v1 W1, (Builtin.append_ #[37, 37] 37 #[v, .slice A ys.length c]).run Tryz.prog W = .ok v1 W1 ∧ W1.ownsRow base 3 1 v1 (xs ++ ys).length ((xs ++ ys).map (Value.int .i64)) ∧ W.grownBy W1 v.ownBlock ∧
   (v1.ownBlock = v.ownBlock ∨ v1.ownBlock = some W.heap.size) := by
 obtain ⟨i0, hi, hzz⟩ := Option.map_eq_some_iff.1 info3
 simp only [Prod.mk.injEq] at hzz
 obtain ⟨hz0, hz1, hz2⟩ := hzz
 cases ys with
 | nil =>
  obtain ⟨A', c', rfl, hle⟩ := hv
  refine ⟨_, W, run_append_nothing W 37 37 37 3 i0 Tryz.underlying37 hi A' xs.length c' hle _ ⟨.inl ⟨3, Tryz.underlying37⟩, fun w' => by rfl, ?_, ?_, by simp, by simp⟩, by simpa using hown, ⟨rfl, rfl, rfl, Nat.le_refl _, fun _ _ _ => rfl⟩, .inl rfl⟩
  ·cases A <;> simp [Builtin.firstCells, loadCells, loadCellsFrom]
  ·cases A <;> simp [Builtin.firstCells, loadCells, loadCellsFrom]
 | cons y0 ys0 =>
  obtain ⟨ys, hys⟩ : ∃ ys, ys = y0 :: ys0 := ⟨_, rfl⟩
  rw [← hys] at hr hl ⊢
  have hpos : 0 < ys.length := by rw [hys]; simp
  obtain ⟨ad, rfl, _⟩ := Kd.at_int hr 0 (by omega) (by omega)
  obtain ⟨v1, w1, h1, h2, h3, _, h5⟩ := run_append_own_at (P := Tryz.prog) (w := W) base 37 37 3 i0 (.int .i64 0) 1 8 Tryz.underlying37 hi hz0 hz1 hz2 rfl (by decide) v xs.length (xs.map (Value.int .i64)) hown
   ad ys.length c (ys.map (Value.int .i64)) (by simp) (fun j u hj => by
    have hj' : j < ys.length := by have := (List.getElem?_eq_some_iff.1 hj).1; simpa using this
    obtain ⟨ad', e, hc⟩ := Kd.at_int hr (j : Int) (by omega) (by omega)
    cases e
    have hu : u = .int .i64 ys[j] := by
     rw [List.getElem?_map, List.getElem?_eq_getElem hj'] at hj
     exact (Option.some.inj hj).symm
    rw [hu]
    simp only [Int.toNat_natCast] at hc
    rw [hc, rd_nat _ _ hj']) (fun u hu => by
    obtain ⟨s, _, rfl⟩ := List.mem_map.1 hu
    rfl) (by simp only [maxLen]; omega) (by omega) hbase
  exact ⟨v1, w1, h1, by simpa using h2, h3, h5⟩
theorem R_of_ownI {w : World} {base : Nat} {v : Value} {xs : List Int} (h : w.ownsRow base 3 1 v xs.length (xs.map (Value.int .i64))) : Kd.R (Kd.int .i64) 3 w base (fun _ => True) v xs :=
 ⟨fun _ _ => trivial, _, h, Kd.reps_scalar xs⟩
structure WR (B : Nat) (W0 W : World) (wl : List ByteArray) (ol : List Int) (wv ov : Value) : Prop where
 below : Below B W0 W
 wr : W.ownsRow B 9 1 wv wl.length (wl.map Value.string)
 orr : W.ownsRow B 3 1 ov ol.length (ol.map (Value.int .i64))
theorem WR.ne {B : Nat} {W0 W : World} {wl : List ByteArray} {ol : List Int} {wv ov : Value} (h : WR B W0 W wl ol wv ov) : ov.ownBlock = none ∨ ov.ownBlock ≠ wv.ownBlock := by
 cases ho : ov.ownBlock with
 | none => exact .inl rfl
 | some k =>
  refine .inr fun e => ?_
  obtain ⟨c1, h1⟩ := own_typed h.orr k ho
  obtain ⟨c2, h2⟩ := own_typed h.wr k e.symm
  rw [h1] at h2
  cases h2
theorem WR.alloc {B : Nat} {W0 W : World} {wl : List ByteArray} {ol : List Int} {wv ov : Value} (h : WR B W0 W wl ol wv ov) (hB : B ≤ W.heap.size) (o : Obj) : WR B W0 (W.alloc o) wl ol wv ov := ⟨h.below.alloc hB o, h.wr.alloc o, h.orr.alloc o⟩
theorem own_slice3 {W : World} {base : Nat} {v : Value} {n : Nat} {xs : List Value} (h : W.ownsRow base 3 1 v n xs) : ∃ A c, v = .slice A n c ∧ n ≤ c := by
 rcases h.2 with ⟨rfl, rfl⟩ | ⟨g, cap, cur, rfl, _, _, hnc, _⟩
 ·exact ⟨_, _, rfl, Nat.le_refl _⟩
 ·exact ⟨_, _, rfl, hnc⟩
theorem WR.world {B : Nat} {W0 W V : World} {wl : List ByteArray} {ol : List Int} {wv ov : Value} (h : WR B W0 W wl ol wv ov) (hB : B ≤ W.heap.size) (hb : Below W.heap.size W V) : WR B W0 V wl ol wv ov := by
 have hg : W.grownBy V none := ⟨hb.os, hb.tape, hb.output, hb.size, fun k hk _ => hb.block k hk⟩
 have hn : ∀ v : Value, v.ownBlock = none ∨ v.ownBlock ≠ none := fun v => by cases v.ownBlock <;> simp
 exact ⟨h.below.trans (hb.mono hB), h.wr.kept hg (hn _), h.orr.kept hg (hn _)⟩
theorem WR.pre {B : Nat} {W0 W : World} {wl : List ByteArray} {ol : List Int} {wv ov : Value} (h : WR B W0 W wl ol wv ov) (hB : B ≤ W.heap.size) (n : Int) (hl : ol.length ≤ 100) :
  ∃ A k c W1, (Builtin.append_ #[37, 37] 37 #[.slice (some ⟨W.heap.size, 0, none⟩) 1 1, ov]).run Tryz.prog (W.alloc (.cells #[.int .i64 n] 3)) = .ok (.slice A k c) W1 ∧ WR B W0 W1 wl (n :: ol) wv (.slice A k c) ∧ B ≤ W1.heap.size ∧ Below W.heap.size W W1 := by
 have ha := h.alloc hB (.cells #[.int .i64 n] 3)
 obtain ⟨A, c, rfl, hlc, hC⟩ := Kd.R_reads (R_of_ownI ha.orr)
 obtain ⟨v1, W1, r1, o1, g1, a1⟩ := spread_ints (W := W.alloc (.cells #[.int .i64 n] 3)) B (.slice (some ⟨W.heap.size, 0, none⟩) 1 1) [n] ol (World.ownsRow_lit W #[.int .i64 n] 1 hB (by decide) rfl) A c hC (by simp; omega) (by simp; omega) ⟨_, _, rfl, Nat.le_refl _⟩
 obtain ⟨A1, c1, rfl, _⟩ := own_slice3 o1
 have hz := g1.size
 have hwl := h.wr.lt
 refine ⟨_, _, _, W1, r1, ⟨?_, ha.wr.kept g1 ?_, o1⟩, by simp at hz; omega, ((Below.refl _ W).alloc (Nat.le_refl _) _).grown g1 (by simp) fun k hk => by simp only [Value.ownBlock, Option.some.injEq] at hk; omega⟩
 ·exact ha.below.grown g1 (by simp; omega) (fun k hk => by simp only [Value.ownBlock, Option.some.injEq] at hk; omega)
 ·cases e : wv.ownBlock with
  | none => exact .inl rfl
  | some k =>
   have := (hwl k e).2
   exact .inr (by simp only [Value.ownBlock, ne_eq, Option.some.injEq]; omega)
theorem WR.add {B : Nat} {W0 W : World} {wl : List ByteArray} {ol : List Int} {wv ov : Value} (h : WR B W0 W wl ol wv ov) (hB : B ≤ W.heap.size) (A : Option Addr) (c : Nat) (ys : List ByteArray) (hr : Kd.C Kd.string W A ys.length ys) (hl : wl.length + ys.length ≤ 1000) :
  ∃ A1 k c1 W1, (Builtin.append_ #[23, 23] 23 #[wv, .slice A ys.length c]).run Tryz.prog W = .ok (.slice A1 k c1) W1 ∧ WR B W0 W1 (wl ++ ys) ol (.slice A1 k c1) ov ∧ B ≤ W1.heap.size := by
 obtain ⟨v1, W1, r1, o1, g1, a1⟩ := spread_run B wv wl ys h.wr A c hr hB hl
 obtain ⟨A1, c1, rfl, _⟩ := own_slice o1
 have hz := g1.size
 refine ⟨_, _, _, W1, r1, ⟨h.below.grown g1 hB fun k hk => (h.wr.lt k hk).1, o1, h.orr.kept g1 h.ne⟩, by omega⟩
end
section
open Prot (standsB)
attribute [local go_sem] slk sget sput uponK_value uponK_skip uponK_enter
theorem info25 : (Tryz.prog.info? 25).map (fun i => (i.zero, i.size, i.bytes)) = some (some (.agg #[.string ⟨#[]⟩, .int .i64 0, .int .i64 0, .slice none 0 0, .slice none 0 0, .string ⟨#[]⟩]), 6, 96) := by kernel_rfl
abbrev RF (w0 W : World) (B : Nat) (v : Value) (xs : List S25) : Prop := Kd.R (Kd.fixed k25 w0) 25 W B (fun _ => True) v xs
theorem RF.kept {w0 W W1 : World} {B : Nat} {v : Value} {xs : List S25} {row : Option Nat} (h : RF w0 W B v xs) (hg : W.grownBy W1 row) (hne : v.ownBlock = none ∨ v.ownBlock ≠ row) : RF w0 W1 B v xs := by
 obtain ⟨h0, inner, ho, hr⟩ := h
 exact ⟨h0, inner, ho.kept hg hne, hr⟩
theorem RF.read {w0 W : World} {B : Nat} {v : Value} {xs : List S25} (h : RF w0 W B v xs) (hb : Below w0.heap.size w0 W) : ∃ A c, v = .slice A xs.length c ∧ xs.length ≤ c ∧ Kd.C k25 W A xs.length xs := by
 obtain ⟨A, c, e, hl, hC⟩ := Kd.R_reads h
 exact ⟨A, c, e, hl, Kd.C_read (d := k25) (dm := Kd.fixed k25 w0) rfl (fun x cs hk => k25.K_below hb hk) hC⟩
structure TwoR (w0 W0 W : World) (B : Nat) (os fs : List S25) (ov fv : Value) : Prop where
 below : Below B W0 W
 size : B ≤ W.heap.size
 o : RF w0 W B ov os
 f : RF w0 W B fv fs
 ne : ∀ k, ov.ownBlock = some k → fv.ownBlock ≠ some k
theorem TwoR.swap {w0 W0 W : World} {B : Nat} {os fs : List S25} {ov fv : Value} (h : TwoR w0 W0 W B os fs ov fv) : TwoR w0 W0 W B fs os fv ov := ⟨h.below, h.size, h.f, h.o, fun k h1 h2 => h.ne k h2 h1⟩
theorem TwoR.world {w0 W0 W V : World} {B : Nat} {os fs : List S25} {ov fv : Value} (h : TwoR w0 W0 W B os fs ov fv) (hb : Below W.heap.size W V) : TwoR w0 W0 V B os fs ov fv := by
 have hk : ∀ {v : Value} {xs : List S25}, RF w0 W B v xs → RF w0 V B v xs := fun {v xs} h => by
  obtain ⟨h0, inner, ho, hr⟩ := h
  refine ⟨h0, inner, ho.kept (row := none) ⟨hb.os, hb.tape, hb.output, hb.size, fun k hk _ => hb.block k hk⟩ ?_, hr⟩
  cases v.ownBlock with
  | none => exact .inl rfl
  | some k => exact .inr (by simp)
 exact ⟨h.below.trans (hb.mono h.size), Nat.le_trans h.size hb.size, hk h.o, hk h.f, h.ne⟩
theorem TwoR.push {w0 W0 W : World} {B : Nat} {os fs : List S25} {ov fv : Value} (h : TwoR w0 W0 W B os fs ov fv) (x : S25) (cs : List Value) (hx : k25.K w0 x cs) (hl : os.length ≤ 1000) :
  ∃ A n c W1, (Builtin.append_ #[22, 22] 22 #[ov, .slice (some ⟨W.heap.size, 0, none⟩) 1 1]).run Tryz.prog (W.alloc (.cells cs.toArray 25)) = .ok (.slice A n c) W1 ∧ TwoR w0 W0 W1 B (os ++ [x]) fs (.slice A n c) fv := by
 obtain ⟨v1, W1, hap, hrow, hg, hat, A, n, c, rfl⟩ := run_R_append (Kd.fixed k25 w0) (P := Tryz.prog) (W := W) B 22 22 25 _ 96 Tryz.underlying22 info25 rfl (Nat.zero_lt_succ 5) (by decide) ov os x cs (fun _ => True) (fun _ => False) hx (fun _ hk => hk.elim) (fun _ _ => trivial) h.o h.size (by omega)
 refine ⟨A, n, c, W1, hap, h.below.grown hg h.size (own_base' h.o), Nat.le_trans h.size hg.size, hrow, h.f.kept hg ?_, fun k h1 h2 => ?_⟩
 ·cases hf : fv.ownBlock with
  | none => exact .inl rfl
  | some k => exact .inr fun e => h.ne k e.symm hf
 ·rcases hat with hat | ⟨b, hb, hlt⟩
  ·exact h.ne k (hat ▸ h1) h2
  ·rw [hb] at h1
   cases h1
   obtain ⟨_, inner, ho, _⟩ := h.f
   have := (ho.lt k h2).2
   omega
theorem snoc_rev (l0 : List S25) (i : Nat) (hi : i < l0.length) : (l0.drop (i + 1)).reverse ++ [rd_T25 l0 (i : Int)] = (l0.drop i).reverse := by
 rw [rdT_at l0 i hi, List.drop_eq_getElem_cons hi, List.reverse_cons]
theorem filt_take (p : S25 → Bool) (l0 : List S25) (i : Nat) (hi : i < l0.length) : (l0.take (i + 1)).filter p = (l0.take i).filter p ++ if p (rd_T25 l0 (i : Int)) = true then [rd_T25 l0 (i : Int)] else [] := by
 rw [rdT_at l0 i hi, ← List.take_append_getElem hi, List.filter_append, List.filter_cons]
 rfl
set_option maxRecDepth 100000 in
set_option maxHeartbeats 4000000 in
theorem order_calls (A0 : Option Addr) (c0 : Nat) (l0 : List S25) (a1 : Int) (A2 : Option Addr) (c2 : Nat) (l2 : List ByteArray) (a3 : ByteArray) (w : World) (hr0 : Kd.C k25 w A0 l0.length l0) (hc0 : l0.length ≤ c0) (hr2 : Kd.C Kd.string w A2 l2.length l2) (hc2 : l2.length ≤ c2) :
  Calls Tryz.prog 6 #[.slice A0 l0.length c0, .int .i64 a1, .slice A2 l2.length c2, .string a3] w fun e w' => e = .returned (.bool true) ∧ Below w.heap.size w w' := by
 have hu25 := Tryz.underlying25
 have H0 := Aside0.mk hr0
 have H2 := Aside0.mk hr2
 clear hr0 hr2
 refine callsK (args := [.slice A0 l0.length c0, .int .i64 a1, .slice A2 l2.length c2, .string a3]) Tryz.func6 rfl Tryz.ntmps6 (by simp) fun a HF => ?_
 replace HF : Fr 158 [] [(0, .slice A0 l0.length c0), (1, .int .i64 a1), (2, .slice A2 l2.length c2), (3, .string a3)] a := HF
 refine wpIn_seq (wpIn_region_k (fun _ => trivial) rfl wideC HF fun K hK => ?_)
 repeat (refine OpsK.step rfl rfl rfl ?_; go_simp)
 refine fin hK [(0, .slice A0 l0.length c0), (1, .int .i64 a1), (2, .slice A2 l2.length c2), (3, .string a3)] ⟨rfl, rfl, rfl, rfl, trivial⟩ fun a HF => ?_
 clear hK K
 refine wpIn_seq (wpIn_seq (wpIn_region_k (fun _ => trivial) rfl wideC HF fun K hK => ?_))
 have HK : ∀ (d : Bool) (l : Slots) (W : World), Sub l [(0, .slice A0 l0.length c0), (1, .int .i64 a1), (2, .slice A2 l2.length c2), (3, .string a3), (31, .bool d)] → Below w.heap.size w W → (d = false → l0.length ≤ 70 ∧ l2.length ≤ 70) → K l W := by
  intro d l W hs hb hd
  refine hK _ _ fun a hf => ?_
  have HF := hf.sub hs
  have HB := Aside0.mk hb
  clear hK K hf hs hb
  simp only [Exit.then, Exit.inBlock, ↓reduceIte]
  refine wpIn_cond (HF.tmp rfl) ?_
  cases d
  ·obtain ⟨hl0, hl2⟩ := hd rfl
   refine wpIn_skip ?_
   simp only [Exit.then, Exit.inBlock, ↓reduceIte]
   clear hd
   obtain ⟨hs, eh, u1⟩ : ∃ hs eh, protest_Holds.f l0 a1 l2 = some (hs, eh) := ⟨_, _, rfl⟩
   have U1 := Aside0.mk u1
   clear u1
   refine wpIn_seq (wpIn_region_k (fun _ => trivial) rfl wideC HF fun K hK => ?_)
   repeat (refine OpsK.step rfl rfl rfl ?_; go_simp)
   refine (protest_Holds.calls A0 c0 l0 a1 A2 c2 l2 hs eh W (Kd.C_below H0.out HB.out) hc0 (Kd.C_below H2.out HB.out) hc2 U1.out).mono ?_
   rintro _ W1 ⟨v, rfl, hR, hb⟩
   obtain ⟨Al, cl, rfl⟩ := Kd.R_slice hR
   have HL := Aside0.mk (Kd.R_reads' hR).2
   have HB1 := Aside0.mk (bt HB.out hb)
   clear hb HB hR
   dsimp only
   repeat (refine OpsK.step rfl rfl rfl ?_; go_simp)
   refine fin hK [(0, .slice A0 l0.length c0), (1, .int .i64 a1), (2, .slice A2 l2.length c2), (3, .string a3), (9, .slice Al hs.length cl), (10, .int .i64 eh)] ⟨rfl, rfl, rfl, rfl, rfl, rfl, trivial⟩ fun a HF => ?_
   clear hK K
   refine wpIn_seq (wpIn_seq (wpIn_region_k (fun _ => trivial) rfl wideC HF fun K hK => ?_))
   by_cases he : eh = 0
   rotate_left 1
   ·have e1 : (eh != 0) = true := by simp [he]
    have e2 : (eh == 0) = false := by simp [he]
    clear U1
    repeat (refine OpsK.step rfl rfl rfl ?_; go_simp)
    refine fin hK [(41, .bool true)] ⟨rfl, trivial⟩ fun a HF => ?_
    clear hK K
    refine wpIn_cond_true (HF.tmp rfl) ?_
    refine wpIn_seq (wpIn_region_k (fun _ => trivial) rfl wideC HF fun K hK => ?_)
    repeat (refine OpsK.step rfl rfl rfl ?_; go_simp)
    refine (awake_true W1).mono ?_
    rintro _ X5 ⟨rfl, hb⟩
    have HD5 := Aside0.mk (bt HB1.out hb)
    clear hb
    dsimp only
    repeat (refine OpsK.step rfl rfl rfl ?_; go_simp)
    refine fin hK [(8, .bool true)] ⟨rfl, trivial⟩ fun a HF => ?_
    refine wpIn_ret ?_
    simp only [Exit.then, ↓reduceIte]
    exact HF.ret1 rfl rfl ⟨rfl, HD5.out⟩
   subst he
   have OP := Aside0.mk (order_plain l0 a1 l2 a3 hs U1.out)
   clear U1
   repeat (refine OpsK.step rfl rfl rfl ?_; go_simp)
   refine fin hK [(0, .slice A0 l0.length c0), (1, .int .i64 a1), (2, .slice A2 l2.length c2), (3, .string a3), (9, .slice Al hs.length cl), (41, .bool false)] ⟨rfl, rfl, rfl, rfl, rfl, rfl, trivial⟩ fun a HF => ?_
   clear hK K
   refine wpIn_cond_false (HF.tmp rfl) (wpIn_skip ?_)
   refine wpIn_seq (wpIn_region_k (fun _ => trivial) rfl wideC HF fun K hK => ?_)
   repeat (refine OpsK.step rfl rfl rfl ?_; go_simp)
   refine fin hK [(0, .slice A0 l0.length c0), (1, .int .i64 a1), (2, .slice A2 l2.length c2), (3, .string a3), (9, .slice Al hs.length cl), (11, .slice none 0 0), (12, .slice none 0 0), (13, .slice none 0 0)] ⟨rfl, rfl, rfl, rfl, rfl, rfl, rfl, rfl, trivial⟩ fun a HF => ?_
   clear hK K
   refine wpIn_seq (wpIn_seq (wpIn_region_k (fun _ => trivial) rfl wideC HF fun K hK => ?_))
   repeat (refine OpsK.step rfl rfl rfl ?_; go_simp)
   refine fin hK [(0, .slice A0 l0.length c0), (1, .int .i64 a1), (2, .slice A2 l2.length c2), (3, .string a3), (9, .slice Al hs.length cl), (12, .slice none 0 0), (13, .slice none 0 0), (11, .slice none 0 0), (14, .int .i64 (IntKind.i64.wrap ((l0.length : Nat) - 1)))] ⟨rfl, rfl, rfl, rfl, rfl, rfl, rfl, rfl, rfl, trivial⟩ fun a HF => ?_
   clear hK K
   rw [IntWalk.i64_in _ (by omega)] at HF
   refine wpIn_block (wpIn_loop (fun a wr => ∃ (j : Nat) (v : Value), j ≤ l0.length ∧ Fr 158 [] [(0, .slice A0 l0.length c0), (1, .int .i64 a1), (2, .slice A2 l2.length c2), (3, .string a3), (9, .slice Al hs.length cl), (12, .slice none 0 0), (13, .slice none 0 0), (11, v), (14, .int .i64 ((j : Nat) - 1 : Int))] a ∧ TwoR w W1 wr W1.heap.size (l0.drop j).reverse [] v (.slice none 0 0))
    (fun a _ => (intOf (a.eval (.tmp 14)) + 1).toNat) ⟨l0.length, _, Nat.le_refl _, HF, Below.refl _ _, Nat.le_refl _, by rw [List.drop_length]; exact Kd.R_nil _ _ _ _ _, Kd.R_nil _ _ _ _ _, fun _ h => by cases h⟩ ?_)
   clear HF
   rintro a W2 ⟨j, v, hj, HF, hT⟩
   have hmu : (intOf (a.eval (.tmp 14)) + 1).toNat = j := by rw [HF.tmp (k := 14) rfl]; simp only [intOf]; omega
   rw [hmu]
   clear hmu
   have HT := Aside0.mk hT
   clear hT
   refine wpIn_seq ?_
   cases j with
   | zero =>
    rw [show ((0 : Nat) - 1 : Int) = -1 from rfl] at HF
    refine wpIn_seq (wpIn_region_k (fun _ => trivial) rfl wideC HF fun K hK => ?_)
    repeat (refine OpsK.step rfl rfl rfl ?_; go_simp)
    refine fin hK [(0, .slice A0 l0.length c0), (1, .int .i64 a1), (2, .slice A2 l2.length c2), (3, .string a3), (9, .slice Al hs.length cl), (12, .slice none 0 0), (13, .slice none 0 0), (11, v), (47, .bool false)] ⟨rfl, rfl, rfl, rfl, rfl, rfl, rfl, rfl, rfl, trivial⟩ fun a HF => ?_
    clear hK K
    refine wpIn_cond_false (HF.tmp rfl) (wpIn_exit ?_)
    simp only [Exit.then, Exit.inBlock, ↓reduceIte]
    rw [List.drop_zero] at HT
    obtain ⟨Ab, cb, rfl, hcb, hrb⟩ := HT.out.o.read (bt HB1.out HT.out.below)
    have HRB := Aside0.mk hrb
    have HB2 := Aside0.mk (bt HB1.out HT.out.below)
    have HL2 := Aside0.mk (And.intro HL.out.1 (Kd.C_below HL.out.2 HT.out.below))
    clear hrb HT HB1 HL
    obtain ⟨bk, hbk⟩ : ∃ bk, bk = l0.reverse := ⟨_, rfl⟩
    rw [← hbk] at HF hcb HRB
    have HBK := Aside0.mk hbk
    have hbl : bk.length = l0.length := by rw [hbk, List.length_reverse]
    clear hbk
    refine wpIn_seq (wpIn_seq (wpIn_region_k (fun _ => trivial) rfl wideC HF fun K hK => ?_))
    repeat (refine OpsK.step rfl rfl rfl ?_; go_simp)
    refine fin hK [(0, .slice A0 l0.length c0), (1, .int .i64 a1), (2, .slice A2 l2.length c2), (3, .string a3), (9, .slice Al hs.length cl), (12, .slice none 0 0), (13, .slice none 0 0), (11, .slice Ab l0.length cb), (15, .int .i64 0)] ⟨rfl, rfl, rfl, rfl, rfl, rfl, rfl, rfl, rfl, trivial⟩ fun a HF => ?_
    clear hK K
    refine wpIn_block (wpIn_loop (fun a wr => ∃ (i : Nat) (ov fv : Value), i ≤ l0.length ∧ Fr 158 [] [(0, .slice A0 l0.length c0), (1, .int .i64 a1), (2, .slice A2 l2.length c2), (3, .string a3), (9, .slice Al hs.length cl), (11, .slice Ab l0.length cb), (12, ov), (13, fv), (15, .int .i64 (i : Nat))] a ∧ TwoR w W2 wr W2.heap.size ((l0.take i).filter fun x => standsB a1 (toC x)) ((l0.take i).filter fun x => decide (x.f4.length = 0)) ov fv)
     (fun a _ => l0.length - (intOf (a.eval (.tmp 15))).toNat) ⟨0, _, _, Nat.zero_le _, HF.sub ⟨rfl, rfl, rfl, rfl, rfl, rfl, rfl, rfl, rfl, trivial⟩, Below.refl _ _, Nat.le_refl _, Kd.R_nil _ _ _ _ _, Kd.R_nil _ _ _ _ _, fun _ h => by cases h⟩ ?_)
    clear HF
    rintro a W3 ⟨i, ov, fv, hi, HF, hT⟩
    have hmu : l0.length - (intOf (a.eval (.tmp 15))).toNat = l0.length - i := by rw [HF.tmp (k := 15) rfl]; simp [intOf]
    rw [hmu]
    clear hmu
    have HT := Aside0.mk hT
    clear hT
    refine wpIn_seq ?_
    by_cases hil : i < l0.length
    ·have hlt : ((i : Nat) : Int) < ((l0.length : Nat) : Int) := by omega
     have hT := HT.out
     obtain ⟨ad, A3, c3, A4, c4, hA0, x0, x1, x2, x3, x4, x5, l3, g3, l4, g4⟩ := at_later H0.out (bt HB2.out hT.below) (i : Int) (by omega) (by omega)
     simp only [Int.toNat_natCast] at x0 x1 x2 x3 x4 x5
     have hf1 := filt_take (fun x => standsB a1 (toC x)) l0 i hil
     have hf2 := filt_take (fun x => decide (x.f4.length = 0)) l0 i hil
     have hn1 := List.length_filter_le (fun x => standsB a1 (toC x)) (l0.take i)
     have hn2 := List.length_filter_le (fun x : S25 => decide (x.f4.length = 0)) (l0.take i)
     have hn3 : (l0.take i).length ≤ l0.length := by rw [List.length_take]; omega
     obtain ⟨x, hx⟩ : ∃ x, x = rd_T25 l0 (i : Int) := ⟨_, rfl⟩
     rw [← hx] at x0 x1 x2 x3 x4 x5 l3 g3 l4 g4 hf1 hf2
     have hK25 := k25_mk w x l3 g3 l4 g4
     obtain ⟨st, hst⟩ : ∃ st, st = standsB a1 (toC x) := ⟨_, rfl⟩
     try dsimp only at hf1
     rw [← hst] at hf1
     cases A0 with
     | none => cases hA0
     | some ad0 =>
     cases hA0
     have HXE := Aside0.mk hx
     have HF1 := Aside0.mk hf1
     have HF2 := Aside0.mk hf2
     have HK2 := Aside0.mk hK25
     have HST := Aside0.mk hst
     have HL3 := Aside0.mk l3
     have HL4 := Aside0.mk l4
     have HG3 := Aside0.mk g3
     have HG4 := Aside0.mk g4
     have HX := Aside0.mk (And.intro x0 (And.intro x1 (And.intro x2 (And.intro x3 (And.intro x4 x5)))))
     clear hf1 hf2 hK25 hst l3 l4 g3 g4 x0 x1 x2 x3 x4 x5 hx hT
     refine wpIn_seq (wpIn_region_k (fun _ => trivial) rfl wideC HF fun K hK => ?_)
     repeat (refine OpsK.step rfl rfl rfl ?_; go_simp)
     refine fin hK [(0, .slice (some ad) l0.length c0), (1, .int .i64 a1), (2, .slice A2 l2.length c2), (3, .string a3), (9, .slice Al hs.length cl), (11, .slice Ab l0.length cb), (12, ov), (13, fv), (15, .int .i64 (i : Nat)), (60, .bool true)] ⟨rfl, rfl, rfl, rfl, rfl, rfl, rfl, rfl, rfl, rfl, trivial⟩ fun a HF => ?_
     clear hK K
     refine wpIn_cond_true (HF.tmp rfl) (wpIn_skip ?_)
     simp only [Exit.then, Exit.inBlock, ↓reduceIte]
     refine wpIn_seq (wpIn_block (wpIn_seq (wpIn_mono (Q := fun e a W => e = .normal ∧ ∃ ov, Fr 158 [] [(0, .slice (some ad) l0.length c0), (1, .int .i64 a1), (2, .slice A2 l2.length c2), (3, .string a3), (9, .slice Al hs.length cl), (11, .slice Ab l0.length cb), (12, ov), (13, fv), (15, .int .i64 (i : Nat))] a ∧ TwoR w W2 W W2.heap.size ((l0.take (i + 1)).filter fun x => standsB a1 (toC x)) ((l0.take i).filter fun x => decide (x.f4.length = 0)) ov fv) ?_ ?_)))
     ·refine wpIn_seq (wpIn_region_k (fun _ => trivial) rfl wideC HF fun K hK => ?_)
      obtain ⟨x0, x1, x2, x3, x4, x5⟩ := HX.out
      repeat (refine OpsK.step rfl rfl rfl ?_; go_simp)
      refine (besomref09_Stands.calls x.f0 x.f1 x.f2 A3 c3 x.f3 A4 c4 x.f4 x.f5 a1 _ W3 (Kd.C_below HG3.out (bt HB2.out HT.out.below)) HL3.out (Kd.C_below HG4.out (bt HB2.out HT.out.below)) HL4.out (Stands_eq _ _ _ _ _ _ _)).mono ?_
      rintro _ W4 ⟨rfl, hb⟩
      have HT4 := Aside0.mk (HT.out.world hb)
      have HB4 := Aside0.mk hb
      clear hb
      rw [show (decide (x.f1 ≤ a1) && decide (a1 ≤ x.f2)) = st from HST.out.symm]
      dsimp only
      repeat (refine OpsK.step rfl rfl rfl ?_; go_simp)
      refine fin hK [(0, .slice (some ad) l0.length c0), (1, .int .i64 a1), (2, .slice A2 l2.length c2), (3, .string a3), (9, .slice Al hs.length cl), (11, .slice Ab l0.length cb), (12, ov), (13, fv), (15, .int .i64 (i : Nat)), (68, .bool st)] ⟨rfl, rfl, rfl, rfl, rfl, rfl, rfl, rfl, rfl, rfl, trivial⟩ fun a HF => ?_
      clear hK K x0 x1 x2 x3 x4 x5
      have hf1 := HF1.out
      cases st with
      | false =>
       refine wpIn_cond_false (HF.tmp rfl) (wpIn_skip ⟨rfl, ov, HF.sub ⟨rfl, rfl, rfl, rfl, rfl, rfl, rfl, rfl, rfl, trivial⟩, ?_⟩)
       rw [hf1]
       simpa using HT4.out
      | true =>
       rw [if_pos rfl] at hf1
       have HFQ := Aside0.mk hf1
       clear hf1
       obtain ⟨A5, n5, k5, W5, hap, hT5⟩ := HT4.out.push x [.string x.f0, .int .i64 x.f1, .int .i64 x.f2, .slice A3 x.f3.length c3, .slice A4 x.f4.length c4, .string x.f5] HK2.out (by omega)
       have HT5 := Aside0.mk hT5
       clear hT5
       obtain ⟨x0, x1, x2, x3, x4, x5⟩ := HX.out
       have y0 := cell_later HB4.out x0
       have y1 := cell_later HB4.out x1
       have y2 := cell_later HB4.out x2
       have y3 := cell_later HB4.out x3
       have y4 := cell_later HB4.out x4
       have y5 := cell_later HB4.out x5
       clear x0 x1 x2 x3 x4 x5
       refine wpIn_cond_true (HF.tmp rfl) ?_
       refine wpIn_region_k (fun _ => trivial) rfl wideC HF fun K hK => ?_
       iterate 6 (refine OpsK.step rfl rfl rfl ?_; go_simp)
       refine OpsK.step rfl rfl rfl ?_
       simp only [execOp, resolve, invoke, builtin, Sem.run_bind, Sem.run_pure, Result.andThen_ok, List.map_toArray, List.map_cons, List.map_nil, slk, sget, sput, ↓reduceIte, Nat.reduceEqDiff, Option.getD_some, hap, uponK_value]
       clear hap
       repeat (refine OpsK.step rfl rfl rfl ?_; go_simp)
       refine hK _ _ fun a hf => ⟨rfl, _, hf.sub ⟨rfl, rfl, rfl, rfl, rfl, rfl, rfl, rfl, rfl, trivial⟩, ?_⟩
       rw [HFQ.out]
       exact HT5.out
     ·rintro _ a W ⟨rfl, ov, HF, hT⟩
      simp only [Exit.then, Exit.inBlock, ↓reduceIte]
      have HT4 := Aside0.mk hT
      clear hT HT HK2 HL3 HL4 HG3 HG4 HX
      refine wpIn_mono (Q := fun e a V => e = .normal ∧ ∃ fv, Fr 158 [] [(0, .slice (some ad) l0.length c0), (1, .int .i64 a1), (2, .slice A2 l2.length c2), (3, .string a3), (9, .slice Al hs.length cl), (11, .slice Ab l0.length cb), (12, ov), (13, fv), (15, .int .i64 (i : Nat))] a ∧ TwoR w W2 V W2.heap.size ((l0.take (i + 1)).filter fun x => standsB a1 (toC x)) ((l0.take (i + 1)).filter fun x => decide (x.f4.length = 0)) ov fv) ?_ ?_
      ·obtain ⟨ad2, A3, c3, A4, c4, hA2, x0, x1, x2, x3, x4, x5, l3, g3, l4, g4⟩ := at_later H0.out (bt HB2.out HT4.out.below) (i : Int) (by omega) (by omega)
       cases hA2
       simp only [Int.toNat_natCast] at x0 x1 x2 x3 x4 x5
       rw [← HXE.out] at x0 x1 x2 x3 x4 x5 l3 g3 l4 g4
       have HK2 := Aside0.mk (k25_mk w x l3 g3 l4 g4)
       clear l3 g3 l4 g4
       obtain ⟨z, hz⟩ : ∃ z, z = decide (x.f4.length = 0) := ⟨_, rfl⟩
       have e1 : (((x.f4.length : Nat) : Int) == 0) = z := by rw [hz, Bool.eq_iff_iff]; simp
       have e2 : decide (x.f4.length = 0) = z := hz.symm
       have hf2 := HF2.out
       rw [e2] at hf2
       have HF3 := Aside0.mk hf2
       clear hz hf2
       refine wpIn_seq (wpIn_region_k (fun _ => trivial) rfl wideC HF fun K hK => ?_)
       repeat (refine OpsK.step rfl rfl rfl ?_; go_simp)
       refine fin hK [(0, .slice (some ad) l0.length c0), (1, .int .i64 a1), (2, .slice A2 l2.length c2), (3, .string a3), (9, .slice Al hs.length cl), (11, .slice Ab l0.length cb), (12, ov), (13, fv), (15, .int .i64 (i : Nat)), (82, .bool z)] ⟨rfl, rfl, rfl, rfl, rfl, rfl, rfl, rfl, rfl, rfl, trivial⟩ fun a HF => ?_
       clear hK K e1 e2
       cases z with
       | false =>
        refine wpIn_cond_false (HF.tmp rfl) (wpIn_skip ⟨rfl, fv, HF.sub ⟨rfl, rfl, rfl, rfl, rfl, rfl, rfl, rfl, rfl, trivial⟩, ?_⟩)
        rw [HF3.out]
        simpa using HT4.out
       | true =>
        obtain ⟨A5, n5, k5, W5, hap, hT5⟩ := HT4.out.swap.push x [.string x.f0, .int .i64 x.f1, .int .i64 x.f2, .slice A3 x.f3.length c3, .slice A4 x.f4.length c4, .string x.f5] HK2.out (by omega)
        have HT5 := Aside0.mk hT5.swap
        clear hT5
        refine wpIn_cond_true (HF.tmp rfl) ?_
        refine wpIn_region_k (fun _ => trivial) rfl wideC HF fun K hK => ?_
        iterate 6 (refine OpsK.step rfl rfl rfl ?_; go_simp)
        refine OpsK.step rfl rfl rfl ?_
        simp only [execOp, resolve, invoke, builtin, Sem.run_bind, Sem.run_pure, Result.andThen_ok, List.map_toArray, List.map_cons, List.map_nil, slk, sget, sput, ↓reduceIte, Nat.reduceEqDiff, Option.getD_some, hap, uponK_value]
        clear hap
        repeat (refine OpsK.step rfl rfl rfl ?_; go_simp)
        refine hK _ _ fun a hf => ⟨rfl, _, hf.sub ⟨rfl, rfl, rfl, rfl, rfl, rfl, rfl, rfl, rfl, trivial⟩, ?_⟩
        rw [HF3.out, if_pos rfl]
        exact HT5.out
      ·rintro _ a V ⟨rfl, fv, HF, hT⟩
       simp only [Exit.then, Exit.inBlock, ↓reduceIte]
       refine wpIn_region_k (fun _ => trivial) rfl wideC HF fun K hK => ?_
       repeat (refine OpsK.step rfl rfl rfl ?_; go_simp)
       refine fin hK [(0, .slice (some ad) l0.length c0), (1, .int .i64 a1), (2, .slice A2 l2.length c2), (3, .string a3), (9, .slice Al hs.length cl), (11, .slice Ab l0.length cb), (12, ov), (13, fv), (15, .int .i64 (IntKind.i64.wrap ((i : Nat) + 1)))] ⟨rfl, rfl, rfl, rfl, rfl, rfl, rfl, rfl, rfl, trivial⟩ fun a HF => ?_
       rw [IntWalk.i64_in ((i : Int) + 1) (by omega)] at HF
       have hms : l0.length - (intOf (a.eval (.tmp 15))).toNat < l0.length - i := by rw [HF.tmp (k := 15) rfl]; simp only [intOf]; omega
       exact ⟨⟨i + 1, ov, fv, by omega, by simpa using HF, hT⟩, hms⟩
    ·have hlt : ¬ ((i : Nat) : Int) < ((l0.length : Nat) : Int) := by omega
     obtain rfl : i = l0.length := by omega
     have hT := HT.out
     rw [List.take_length] at hT
     clear HT hi hil
     obtain ⟨Ao, co, rfl, hco, hro⟩ := hT.o.read (bt HB2.out hT.below)
     obtain ⟨Af, cf, rfl, hcf, hrf⟩ := hT.f.read (bt HB2.out hT.below)
     have HB3 := Aside0.mk (bt HB2.out hT.below)
     have HRB3 := Aside0.mk (Kd.C_below HRB.out hT.below)
     have HRO := Aside0.mk hro
     have HRF := Aside0.mk hrf
     have HL3 := Aside0.mk (And.intro HL2.out.1 (Kd.C_below HL2.out.2 hT.below))
     clear hT hro hrf HB2 HRB HL2
     obtain ⟨u0, u1, u2, cs, ds, ei, u3, u4, u5, u6, u7⟩ := OP.out
     rw [← HBK.out] at u1
     have U1 := Aside0.mk u1
     have U2 := Aside0.mk u2
     have U3 := Aside0.mk u3
     have U4 := Aside0.mk u4
     have U7 := Aside0.mk u7
     clear u1 u2 u3 u4 u7 OP HBK
     obtain ⟨on, hon⟩ : ∃ on, on = l0.filter fun x => standsB a1 (toC x) := ⟨_, rfl⟩
     obtain ⟨fn, hfn⟩ : ∃ fn, fn = l0.filter fun x => decide (x.f4.length = 0) := ⟨_, rfl⟩
     rw [← hon] at HF U2 hco HRO
     rw [← hfn] at HF U3 U4 hcf HRF
     clear hon hfn
     refine wpIn_seq (wpIn_region_k (fun _ => trivial) rfl wideC HF fun K hK => ?_)
     repeat (refine OpsK.step rfl rfl rfl ?_; go_simp)
     refine fin hK [(1, .int .i64 a1), (2, .slice A2 l2.length c2), (3, .string a3), (9, .slice Al hs.length cl), (11, .slice Ab l0.length cb), (12, .slice Ao on.length co), (13, .slice Af fn.length cf), (60, .bool false)] ⟨rfl, rfl, rfl, rfl, rfl, rfl, rfl, rfl, trivial⟩ fun a HF => ?_
     clear hK K
     refine wpIn_cond_false (HF.tmp rfl) (wpIn_exit ?_)
     simp only [Exit.then, Exit.inBlock, ↓reduceIte]
     have HC0 := HB3
     obtain ⟨V0, hv0⟩ : ∃ V, V = W3 := ⟨_, rfl⟩
     rw [← hv0] at HB3 HRB3 HRO HRF HL3 HC0 ⊢
     clear hv0
     refine wpIn_seq (wpIn_region_k (fun _ => trivial) rfl wideC HF fun K hK => ?_)
     repeat (refine OpsK.step rfl rfl rfl ?_; go_simp)
     have hcall := protest_Holds.calls Ab cb bk a1 A2 c2 l2 hs 0 V0 HRB3.out (by rw [hbl]; omega) (Kd.C_below H2.out HC0.out) hc2 U1.out
     rw [hbl] at hcall
     refine hcall.mono ?_
     clear hcall
     rintro _ V1 ⟨v, rfl, hR, hb⟩
     obtain ⟨Al0, cl0, rfl⟩ := Kd.R_slice hR
     have HY0 := Aside0.mk (Kd.R_reads' hR).2
     have HS0 := Aside0.mk hb
     have HC1 := Aside0.mk (bt HC0.out hb)
     clear hb hR
     dsimp only
     repeat (refine OpsK.step rfl rfl rfl ?_; go_simp)
     refine fin hK [(1, .int .i64 a1), (2, .slice A2 l2.length c2), (3, .string a3), (9, .slice Al hs.length cl), (12, .slice Ao on.length co), (13, .slice Af fn.length cf), (16, .slice Al0 hs.length cl0), (17, .int .i64 0)] ⟨rfl, rfl, rfl, rfl, rfl, rfl, rfl, rfl, trivial⟩ fun a HF => ?_
     clear hK K
     refine wpIn_seq (wpIn_region_k (fun _ => trivial) rfl wideC HF fun K hK => ?_)
     repeat (refine OpsK.step rfl rfl rfl ?_; go_simp)
     have hcall := protest_Holds.calls Ao co on a1 A2 c2 l2 hs 0 V1 (Kd.C_below HRO.out HS0.out) hco (Kd.C_below H2.out HC1.out) hc2 U2.out
     refine hcall.mono ?_
     clear hcall
     rintro _ V2 ⟨v, rfl, hR, hb⟩
     obtain ⟨Al1, cl1, rfl⟩ := Kd.R_slice hR
     have HY1 := Aside0.mk (Kd.R_reads' hR).2
     have HS1 := Aside0.mk hb
     have HC2 := Aside0.mk (bt HC1.out hb)
     clear hb hR
     dsimp only
     repeat (refine OpsK.step rfl rfl rfl ?_; go_simp)
     refine fin hK [(1, .int .i64 a1), (2, .slice A2 l2.length c2), (3, .string a3), (9, .slice Al hs.length cl), (13, .slice Af fn.length cf), (16, .slice Al0 hs.length cl0), (17, .int .i64 0), (18, .slice Al1 hs.length cl1), (19, .int .i64 0)] ⟨rfl, rfl, rfl, rfl, rfl, rfl, rfl, rfl, rfl, trivial⟩ fun a HF => ?_
     clear hK K
     refine wpIn_seq (wpIn_seq (wpIn_region_k (fun _ => trivial) rfl wideC HF fun K hK => ?_))
     repeat (first | (refine OpsK.step rfl rfl rfl ?_; go_simp) | refine OpsK.skip rfl rfl ?_)
     refine (besomref09_Same.calls 200 Al0 cl0 hs Al cl hs true V2 (Kd.C_below HY0.out.2 HS1.out) HY0.out.1 (Kd.C_below HL3.out.2 (bt HS0.out HS1.out)) HL3.out.1 (by rw [Same_eq hs hs 200 (by omega) (by omega)]; simp)).mono ?_
     rintro _ V3 ⟨rfl, hd⟩
     have HS2 := Aside0.mk hd.below
     have HC3 := Aside0.mk (bd HC2.out hd)
     clear hd
     dsimp only
     repeat (first | (refine OpsK.step rfl rfl rfl ?_; go_simp) | refine OpsK.skip rfl rfl ?_)
     refine (besomref09_Same.calls 200 Al1 cl1 hs Al cl hs true V3 (Kd.C_below HY1.out.2 HS2.out) HY1.out.1 (Kd.C_below HL3.out.2 (bt HS0.out (bt HS1.out HS2.out))) HL3.out.1 (by rw [Same_eq hs hs 200 (by omega) (by omega)]; simp)).mono ?_
     rintro _ V4 ⟨rfl, hd⟩
     have HS3 := Aside0.mk hd.below
     have HC4 := Aside0.mk (bd HC3.out hd)
     clear hd
     dsimp only
     repeat (first | (refine OpsK.step rfl rfl rfl ?_; go_simp) | refine OpsK.skip rfl rfl ?_)
     refine fin hK [(1, .int .i64 a1), (2, .slice A2 l2.length c2), (3, .string a3), (13, .slice Af fn.length cf), (121, .bool false)] ⟨rfl, rfl, rfl, rfl, rfl, trivial⟩ fun a HF => ?_
     clear hK K
     refine wpIn_cond_false (HF.tmp rfl) (wpIn_skip ?_)
     have hb4 := bt HS0.out (bt HS1.out (bt HS2.out HS3.out))
     have HRF4 := Aside0.mk (Kd.C_below HRF.out hb4)
     clear hb4 HS0 HS1 HS2 HS3 HY0 HY1 HL3 HRF HRO HRB3 HB3 HC0 HC1 HC2 HC3
     refine wpIn_seq (wpIn_region_k (fun _ => trivial) rfl wideC HF fun K hK => ?_)
     repeat (refine OpsK.step rfl rfl rfl ?_; go_simp)
     have hcall := protest_Holds.calls Af cf fn a1 A2 c2 l2 cs 0 V4 HRF4.out hcf (Kd.C_below H2.out HC4.out) hc2 U3.out
     refine hcall.mono ?_
     clear hcall
     rintro _ V5 ⟨v, rfl, hR, hb⟩
     obtain ⟨Al4, cl4, rfl⟩ := Kd.R_slice hR
     have HY4 := Aside0.mk (Kd.R_reads' hR).2
     have HS4 := Aside0.mk hb
     have HC5 := Aside0.mk (bt HC4.out hb)
     clear hb hR
     dsimp only
     repeat (refine OpsK.step rfl rfl rfl ?_; go_simp)
     refine fin hK [(1, .int .i64 a1), (2, .slice A2 l2.length c2), (3, .string a3), (13, .slice Af fn.length cf), (20, .slice Al4 cs.length cl4), (21, .int .i64 0)] ⟨rfl, rfl, rfl, rfl, rfl, rfl, trivial⟩ fun a HF => ?_
     clear hK K
     obtain ⟨kr, hris⟩ : ∃ k, besomref09_Rising.f k (l2 ++ [a3]) = some (factsOf (l2 ++ [a3])) := ⟨_, Rising_eq _ _ (by rw [List.length_append, List.length_singleton]; omega) (Nat.lt_succ_self _)⟩
     have HRI := Aside0.mk hris
     clear hris
     obtain ⟨v66, Wc, v70, Wd, hap, hap2, hbc, hbd, hR7, A7, n7, c7, rfl⟩ := two_appends' (W0 := V5) (Wb := V5.alloc (.cells #[] 9)) V5.heap.size V5.heap.size ((Below.refl _ V5).alloc (Nat.le_refl _) _) (Nat.le_refl _) (own_new V5 V5.heap.size (Nat.le_refl _)) (Nat.le_refl _) a3 A2 c2 l2 (Kd.C_below H2.out HC5.out) (by omega)
     obtain ⟨L7, hL7⟩ : ∃ L, L = l2 ++ [a3] := ⟨_, rfl⟩
     rw [← hL7] at hR7 HRI U4
     clear hL7
     obtain ⟨hn7, hc7, hC7⟩ := Kd.R_reads' hR7
     subst hn7
     have HBD := Aside0.mk hbd
     have HR7 := Aside0.mk hC7
     clear hbc hbd hR7 hC7
     refine wpIn_seq (wpIn_region_k (fun _ => trivial) rfl wideC HF fun K hK => ?_)
     iterate 4 (refine OpsK.step rfl rfl rfl ?_; go_simp)
     refine OpsK.step rfl rfl rfl ?_
     simp only [execOp, resolve, invoke, builtin, Sem.run_bind, Sem.run_pure, Result.andThen_ok, List.map_toArray, List.map_cons, List.map_nil, slk, sget, sput, ↓reduceIte, Nat.reduceEqDiff, Option.getD_some, hap, uponK_value]
     clear hap
     iterate 2 (refine OpsK.step rfl rfl rfl ?_; go_simp)
     refine OpsK.step rfl rfl rfl ?_
     simp only [execOp, resolve, invoke, builtin, Sem.run_bind, Sem.run_pure, Result.andThen_ok, List.map_toArray, List.map_cons, List.map_nil, slk, sget, sput, ↓reduceIte, Nat.reduceEqDiff, Option.getD_some, hap2, uponK_value]
     clear hap2
     repeat (refine OpsK.step rfl rfl rfl ?_; go_simp)
     refine (besomref09_Rising.calls kr A7 c7 L7 (factsOf L7) Wd HR7.out hc7 HRI.out).mono ?_
     rintro _ V6 ⟨v, rfl, hR, hb⟩
     obtain ⟨A8, c8, rfl⟩ := Kd.R_slice hR
     have HR8 := Aside0.mk (Kd.R_reads' hR).2
     have HS5 := Aside0.mk (bt HBD.out hb)
     have HC6 := Aside0.mk (bt HC5.out HS5.out)
     clear hb hR HR7 HBD
     dsimp only
     repeat (refine OpsK.step rfl rfl rfl ?_; go_simp)
     have hcall := protest_Holds.calls Af cf fn a1 A8 c8 (factsOf L7) ds ei V6 (Kd.C_below HRF4.out (bt HS4.out HS5.out)) hcf HR8.out.2 HR8.out.1 U4.out
     refine hcall.mono ?_
     clear hcall
     rintro _ V7 ⟨v, rfl, hR, hb⟩
     obtain ⟨Al6, cl6, rfl⟩ := Kd.R_slice hR
     have HY6 := Aside0.mk (Kd.R_reads' hR).2
     have HS6 := Aside0.mk hb
     have HC7 := Aside0.mk (bt HC6.out hb)
     clear hb hR
     dsimp only
     repeat (refine OpsK.step rfl rfl rfl ?_; go_simp)
     refine fin hK [(20, .slice Al4 cs.length cl4), (21, .int .i64 0), (22, .slice Al6 ds.length cl6), (23, .int .i64 ei)] ⟨rfl, rfl, rfl, rfl, trivial⟩ fun a HF => ?_
     clear hK K
     refine wpIn_seq (wpIn_region_k (fun _ => trivial) rfl wideC HF fun K hK => ?_)
     have hcd := U7.out
     clear U7
     by_cases he : ei = 0
     ·subst he
      have hnil := filter_none (hcd rfl)
      clear hcd
      repeat (first | (refine OpsK.step rfl rfl rfl ?_; go_simp) | refine OpsK.skip rfl rfl ?_)
      refine (besomref09_Less.calls 1000 Al4 cl4 cs Al6 cl6 ds [] V7 (Kd.C_below HY4.out.2 (bt HS5.out HS6.out)) HY4.out.1 HY6.out.2 HY6.out.1 (by rw [Less_eq cs ds 1000 (by omega) (by omega) (by omega), hnil])).mono ?_
      rintro _ V8 ⟨v, rfl, hR, hb⟩
      obtain ⟨A9, c9, rfl⟩ := Kd.R_slice hR
      have HC8 := Aside0.mk (bt HC7.out hb)
      clear hb hR
      dsimp only
      repeat (first | (refine OpsK.step rfl rfl rfl ?_; go_simp) | refine OpsK.skip rfl rfl ?_)
      refine (awake_true V8).mono ?_
      rintro _ X5 ⟨rfl, hb⟩
      have HD5 := Aside0.mk (bt HC8.out hb)
      clear hb
      dsimp only
      repeat (first | (refine OpsK.step rfl rfl rfl ?_; go_simp) | refine OpsK.skip rfl rfl ?_)
      refine fin hK [(8, .bool true)] ⟨rfl, trivial⟩ fun a HF => ?_
      refine wpIn_ret ?_
      try simp only [Exit.then, Exit.inBlock, ↓reduceIte]
      exact HF.ret1 rfl rfl ⟨rfl, HD5.out⟩
     ·have e1 : (ei != 0) = true := by simp [he]
      have e2 : (ei == 0) = false := by simp [he]
      clear hcd he
      repeat (first | (refine OpsK.step rfl rfl rfl ?_; go_simp) | refine OpsK.skip rfl rfl ?_)
      refine (awake_true V7).mono ?_
      rintro _ X5 ⟨rfl, hb⟩
      have HD5 := Aside0.mk (bt HC7.out hb)
      clear hb
      dsimp only
      repeat (first | (refine OpsK.step rfl rfl rfl ?_; go_simp) | refine OpsK.skip rfl rfl ?_)
      refine fin hK [(8, .bool true)] ⟨rfl, trivial⟩ fun a HF => ?_
      refine wpIn_ret ?_
      try simp only [Exit.then, Exit.inBlock, ↓reduceIte]
      exact HF.ret1 rfl rfl ⟨rfl, HD5.out⟩
   | succ j =>
    have hjl : j < l0.length := by omega
    obtain ⟨ad, A3, c3, A4, c4, hA0, x0, x1, x2, x3, x4, x5, l3, g3, l4, g4⟩ := at_later H0.out (bt HB1.out HT.out.below) (j : Int) (by omega) (by omega)
    simp only [Int.toNat_natCast] at x0 x1 x2 x3 x4 x5
    have hsn := snoc_rev l0 j hjl
    obtain ⟨x, hx⟩ : ∃ x, x = rd_T25 l0 (j : Int) := ⟨_, rfl⟩
    rw [← hx] at x0 x1 x2 x3 x4 x5 l3 g3 l4 g4 hsn
    have hK25 := k25_mk w x l3 g3 l4 g4
    obtain ⟨A5, n5, k5, W5, hap, hT5⟩ := HT.out.push x [.string x.f0, .int .i64 x.f1, .int .i64 x.f2, .slice A3 x.f3.length c3, .slice A4 x.f4.length c4, .string x.f5] hK25 (by simp; omega)
    rw [hsn] at hT5
    cases A0 with
    | none => cases hA0
    | some ad0 =>
    cases hA0
    have HT5 := Aside0.mk hT5
    have hlt : ((j : Nat) : Int) < ((l0.length : Nat) : Int) := by omega
    clear hT5 hsn hK25 l3 g3 l4 g4 hx HT
    replace HF : Fr 158 [] [(0, .slice (some ad) l0.length c0), (1, .int .i64 a1), (2, .slice A2 l2.length c2), (3, .string a3), (9, .slice Al hs.length cl), (12, .slice none 0 0), (13, .slice none 0 0), (11, v), (14, .int .i64 (j : Nat))] a := by
     have e : ((j + 1 : Nat) : Int) - 1 = (j : Int) := by omega
     rw [e] at HF
     exact HF
    refine wpIn_seq (wpIn_region_k (fun _ => trivial) rfl wideC HF fun K hK => ?_)
    repeat (refine OpsK.step rfl rfl rfl ?_; go_simp)
    refine fin hK [(0, .slice (some ad) l0.length c0), (1, .int .i64 a1), (2, .slice A2 l2.length c2), (3, .string a3), (9, .slice Al hs.length cl), (12, .slice none 0 0), (13, .slice none 0 0), (11, v), (14, .int .i64 (j : Nat)), (47, .bool true)] ⟨rfl, rfl, rfl, rfl, rfl, rfl, rfl, rfl, rfl, rfl, trivial⟩ fun a HF => ?_
    clear hK K
    refine wpIn_cond_true (HF.tmp rfl) (wpIn_skip ?_)
    simp only [Exit.then, Exit.inBlock, ↓reduceIte]
    refine wpIn_seq (wpIn_block (wpIn_region_k (fun _ => trivial) rfl wideC HF fun K hK => ?_))
    iterate 6 (refine OpsK.step rfl rfl rfl ?_; go_simp)
    refine OpsK.step rfl rfl rfl ?_
    simp only [execOp, resolve, invoke, builtin, Sem.run_bind, Sem.run_pure, Result.andThen_ok, List.map_toArray, List.map_cons, List.map_nil, slk, sget, sput, ↓reduceIte, Nat.reduceEqDiff, Option.getD_some, hap, uponK_value]
    clear hap
    repeat (refine OpsK.step rfl rfl rfl ?_; go_simp)
    refine fin hK [(0, .slice (some ad) l0.length c0), (1, .int .i64 a1), (2, .slice A2 l2.length c2), (3, .string a3), (9, .slice Al hs.length cl), (12, .slice none 0 0), (13, .slice none 0 0), (11, .slice A5 n5 k5), (14, .int .i64 (j : Nat))] ⟨rfl, rfl, rfl, rfl, rfl, rfl, rfl, rfl, rfl, trivial⟩ fun a HF => ?_
    clear hK K
    simp only [Exit.then, Exit.inBlock, ↓reduceIte]
    refine wpIn_region_k (fun _ => trivial) rfl wideC HF fun K hK => ?_
    repeat (refine OpsK.step rfl rfl rfl ?_; go_simp)
    refine fin hK [(0, .slice (some ad) l0.length c0), (1, .int .i64 a1), (2, .slice A2 l2.length c2), (3, .string a3), (9, .slice Al hs.length cl), (12, .slice none 0 0), (13, .slice none 0 0), (11, .slice A5 n5 k5), (14, .int .i64 (IntKind.i64.wrap ((j : Nat) - 1)))] ⟨rfl, rfl, rfl, rfl, rfl, rfl, rfl, rfl, rfl, trivial⟩ fun a HF => ?_
    clear hK K
    rw [IntWalk.i64_in ((j : Int) - 1) (by omega)] at HF
    have hms : (intOf (a.eval (.tmp 14)) + 1).toNat < j + 1 := by rw [HF.tmp (k := 14) rfl]; simp only [intOf]; omega
    exact ⟨⟨j, _, by omega, by simpa using HF, HT5.out⟩, hms⟩
  ·refine wpIn_seq (wpIn_region_k (fun _ => trivial) rfl wideC HF fun K hK => ?_)
   repeat (refine OpsK.step rfl rfl rfl ?_; go_simp)
   refine (awake_true W).mono ?_
   rintro _ X5 ⟨rfl, hb⟩
   have HD5 := Aside0.mk (bt HB.out hb)
   clear hb
   dsimp only
   repeat (refine OpsK.step rfl rfl rfl ?_; go_simp)
   refine fin hK [(8, .bool true)] ⟨rfl, trivial⟩ fun a HF => ?_
   refine wpIn_ret ?_
   simp only [Exit.then, ↓reduceIte]
   exact HF.ret1 rfl rfl ⟨rfl, HD5.out⟩
 clear hK
 repeat (refine OpsK.step rfl rfl rfl ?_; go_simp)
 refine (great_call A0 c0 l0 A2 c2 l2 w H0.out hc0 H2.out hc2).mono ?_
 rintro _ W ⟨b, rfl, hg, hb⟩
 have HC := Aside0.mk hb
 have HGR := Aside0.mk hg
 clear hb hg
 dsimp only
 cases b
 all_goals repeat (first | (refine OpsK.step rfl rfl rfl ?_; go_simp) | refine OpsK.skip rfl rfl ?_)
 ·exact HK _ _ _ ⟨rfl, rfl, rfl, rfl, rfl, trivial⟩ HC.out fun _ => HGR.out rfl
 ·exact HK _ _ _ ⟨rfl, rfl, rfl, rfl, rfl, trivial⟩ HC.out fun h => by cases h
end
section
section
variable {H : Type} {enc : TypeId × Value → H} {w : World} {base : Nat} {spare : Nat → Bool} {held : Bool} {fuel : Nat} {cs : List Value} {x : DataW H × List MemPlace}
theorem open_S {t : TypeId} (ht : Tryz.prog.underlying t = some (.slice 9)) (h : DataW.trod enc Tryz.prog w base spare held fuel t cs = some x) : ∃ A l c, cs = [.slice A (l : List ByteArray).length c] ∧ l.length ≤ c ∧ Kd.C Kd.string w A l.length l := by
 rcases Go.Deep.open_strs ht Tryz.underlying9 (by kernel_rfl) h with ⟨rfl, _⟩ | ⟨a, len, cap, m, Sx, rfl, _, hl, hm, hmm, _, hc⟩
 ·exact ⟨none, [], 0, rfl, Nat.le_refl _, rfl, by decide, fun h => absurd h (by decide)⟩
 ·have hlm : len ≤ m := by rw [hmm]; split <;> omega
  refine ⟨some a, (List.range len).map Sx, cap, by simp, by simpa using hl, rfl, by simp only [List.length_map, List.length_range, maxLen] at *; omega, fun _ => ⟨a, rfl, fun j p hj => ⟨[.string p], rfl, rfl, fun i u hu => ?_⟩⟩⟩
  obtain ⟨hjl, rfl⟩ : j < len ∧ p = Sx j := by
   rw [List.getElem?_map] at hj
   obtain ⟨q, hq, rfl⟩ := Option.map_eq_some_iff.1 hj
   obtain ⟨h1, h2⟩ := List.getElem?_eq_some_iff.1 hq
   simp only [List.length_range] at h1
   rw [List.getElem_range] at h2
   subst h2
   exact ⟨h1, rfl⟩
  cases i with
  | succ n => simp at hu
  | zero =>
   simp at hu
   subst hu
   show w.cell? (a.add (j * 1 + 0)) = _
   rw [Nat.mul_one, Nat.add_zero]
   exact (hc j (by omega)).1
set_option maxRecDepth 100000 in
theorem open_cl (h : DataW.trod enc Tryz.prog w base spare held fuel 25 cs = some x) : ∃ y : S25, k25.K w y cs := by
 obtain ⟨xs, n, _, _, hl, hlen, hf⟩ := DataW.trod_struct Tryz.underlying25 h
 have hl6 : cs.length = 6 := hl.trans (by kernel_rfl)
 have e9 : Tryz.prog.cellsOf 9 = 1 := by kernel_rfl
 have e3 : Tryz.prog.cellsOf 3 = 1 := by kernel_rfl
 have e23 : Tryz.prog.cellsOf 23 = 1 := by kernel_rfl
 have hx6 : xs.length = 6 := hlen
 match cs, hl6 with
 | [v0, v1, v2, v3, v4, v5], _ =>
  match xs, hx6 with
  | [y0, y1, y2, y3, y4, y5], _ =>
   have f0 := hf 0 _ rfl
   have f1 := hf 1 _ rfl
   have f2 := hf 2 _ rfl
   have f3 := hf 3 _ rfl
   have f4 := hf 4 _ rfl
   have f5 := hf 5 _ rfl
   simp only [e9, e3, e23, List.drop_zero, List.drop_succ_cons, List.take_succ_cons, List.take_zero, List.getElem?_cons_zero, List.getElem?_cons_succ] at f0 f1 f2 f3 f4 f5
   obtain ⟨s0, g0, _⟩ := DataW.trod_string Tryz.underlying9 f0
   obtain ⟨n1, g1, _⟩ := DataW.trod_int Tryz.underlying3 f1
   obtain ⟨n2, g2, _⟩ := DataW.trod_int Tryz.underlying3 f2
   obtain ⟨A3, l3, c3, g3, h3, q3⟩ := open_S Tryz.underlying23 f3
   obtain ⟨A4, l4, c4, g4, h4, q4⟩ := open_S Tryz.underlying23 f4
   obtain ⟨s5, g5, _⟩ := DataW.trod_string Tryz.underlying9 f5
   cases g0; cases g1; cases g2; cases g3; cases g4; cases g5
   exact ⟨⟨s0, n1, n2, l3, l4, s5⟩, k25_mk w ⟨s0, n1, n2, l3, l4, s5⟩ h3 q3 h4 q4⟩
theorem open_book {t : TypeId} (ht : Tryz.prog.underlying t = some (.slice 25)) (h : DataW.trod enc Tryz.prog w base spare held fuel t cs = some x) : ∃ A l c, cs = [.slice A (l : List S25).length c] ∧ l.length ≤ c ∧ Kd.C k25 w A l.length l := by
 rcases Go.Deep.open_slice ht h with ⟨rfl, _⟩ | ⟨a, len, cap, m, n, D, Pl, rfl, _, hl, hm, hmm, _, hc⟩
 ·exact ⟨none, [], 0, rfl, Nat.le_refl _, rfl, by decide, fun h => absurd h (by decide)⟩
 ·have hlm : len ≤ m := by rw [hmm]; split <;> omega
  have e25 : Tryz.prog.cellsOf 25 = 6 := by kernel_rfl
  have each : ∀ i, i < m → ∃ y : S25, ∃ cs', cs'.length = 6 ∧ k25.K w y cs' ∧ ∀ j, j < 6 → w.cell? ((a.add (i * 6)).add j) = cs'[j]? := fun i hi => by
   obtain ⟨cs', h1, h2⟩ := hc i hi
   rw [e25] at h1
   obtain ⟨_, h3, h4⟩ := World.cells?_some h1
   obtain ⟨y, hy⟩ := open_cl h2
   exact ⟨y, cs', h3, hy, h4⟩
  have : ∃ Y : Nat → S25, ∀ i, i < m → ∃ cs', cs'.length = 6 ∧ k25.K w (Y i) cs' ∧ ∀ j, j < 6 → w.cell? ((a.add (i * 6)).add j) = cs'[j]? := by
   refine ⟨fun i => if h : i < m then (each i h).choose else z25, fun i hi => ?_⟩
   simp only [hi, dif_pos]
   exact (each i hi).choose_spec
  obtain ⟨Y, hY⟩ := this
  refine ⟨some a, (List.range len).map Y, cap, by simp, by simpa using hl, rfl, by simp only [List.length_map, List.length_range, maxLen] at *; omega, fun _ => ⟨a, rfl, fun j p hj => ?_⟩⟩
  obtain ⟨hjl, rfl⟩ : j < len ∧ p = Y j := by
   rw [List.getElem?_map] at hj
   obtain ⟨q, hq, rfl⟩ := Option.map_eq_some_iff.1 hj
   obtain ⟨h1, h2⟩ := List.getElem?_eq_some_iff.1 hq
   simp only [List.length_range] at h1
   rw [List.getElem_range] at h2
   subst h2
   exact ⟨h1, rfl⟩
  obtain ⟨cs', h1, h2, h3⟩ := hY j (by omega)
  refine ⟨cs', h1, h2, fun i u hu => ?_⟩
  have hi6 : i < 6 := by have := (List.getElem?_eq_some_iff.1 hu).1; omega
  have := h3 i hi6
  rw [hu] at this
  rw [← this]
  show w.cell? (a.add (j * 6 + i)) = w.cell? ((a.add (j * 6)).add i)
  rw [Go.Addr.add_add]
end
end
end Go.Proofs.YtlhkeohcickiaaaGreatDoor.E
namespace Go.Proofs.YtlhkeohcickiaaaGreatDoor.protestOrder
open Go.ChangeShapes Go.WideShapes Go.ChangeAt Go.RowKit Go.Proofs.YtlhkeohcickiaaaGreatDoor.E Go.Proofs.YtlhkeohcickiaaaGreatDoorW.PrintWords Go.Proofs.YtlhkeohcickiaaaGreatDoorW.PrintLast Go.Proofs.YtlhkeohcickiaaaGreatDoorW.PrintMore
open Go.ChangeMaps (open_string shut_string)
theorem own : ownKnob Tryz.prog.godebug = none := by kernel_rfl
theorem laidOut : laidOutB Tryz.prog = true := by kernel_rfl
set_option maxRecDepth 100000 in
theorem lifted (os : Os) (started : os.Started) (H : Type) (enc : TypeId × Value → H) :
  ReturnsInHanded {} Tryz.checked os 6 .any (fun w args => (Rows.protestOrderSpec.pre enc Tryz.prog Tryz.f6 Rows.protestOrderRow.domain false w args ∧ laidMetH Tryz.prog Rows.protestOrderRow.laid w) ∧ sizedMet enc Tryz.prog Tryz.f6 (OpenSpec.ofChange Rows.protestOrderSpec) false w args)
   (Rows.protestOrderSpec.post enc Tryz.prog Tryz.f6 false true false false) := by
 refine returnsInHanded_of_change_and (C := Tryz.checked) (X := fun w _ => laidMetH Tryz.prog Rows.protestOrderRow.laid w) (fun _ _ _ hh h => h.of_heap hh) own started (by kernel_rfl) Tryz.func6
  (ChangeSpec.witness_shaped (enc := enc) (C := Tryz.checked) (os := os) (X := fun w _ => laidMetH Tryz.prog Rows.protestOrderRow.laid w) false (World.laidAll Tryz.prog os Rows.protestOrderRow.laid) #[.slice none 0 0, .int .i64 0, .slice none 0 0, .string ByteArray.empty] 8 (World.laidAll_os _ _ _)
   (World.shaped_of_ZipB (by kernel_rfl) (by kernel_rfl)) (by kernel_rfl) (by kernel_rfl) (by kernel_rfl)
   (by rw [MakeChecks.laidMetH_plain _ _ _ (by kernel_rfl)]; exact laidMet_laidAll _ (by kernel_rfl) (by kernel_rfl))) ?_
 intro W base args ds gs before hval0 hW hc _ hL _
 have hval : ∀ (j : Nat) t v, Tryz.f6.params[j]? = some t → args[j]? = some v → Value.okWide Tryz.prog W .any base t v := hval0
 have hW' := hW
 obtain ⟨p, q, hA0, hV, rfl, hfz, hnd⟩ := hW
 have hA : DataW.TrodAll enc Tryz.prog W 0 (fun _ => true) true Tryz.f6.params.toList args.toList ds p := hA0
 rw [Tryz.params6] at hA hval
 obtain ⟨v0, vs0, d0, ds0, p0, q0, hargs, rfl, rfl, h0, r0⟩ := trodAll_cons hA
 obtain ⟨v1, vs1, d1, ds1, p1, q1, rfl, rfl, rfl, h1, r1⟩ := trodAll_cons r0
 obtain ⟨v2, vs2, d2, ds2, p2, q2, rfl, rfl, rfl, h2, r2⟩ := trodAll_cons r1
 obtain ⟨v3, vs3, d3, ds3, p3, q3, rfl, rfl, rfl, h3, r3⟩ := trodAll_cons r2
 obtain ⟨rfl, rfl, rfl⟩ := trodAll_nil r3
 obtain rfl : args = #[v0, v1, v2, v3] := by cases args; simp_all
 obtain ⟨rfl, rfl⟩ := trodVars_none hV
 obtain ⟨a0, len0, cap0, rfl⟩ := okWide_slice Tryz.underlying22 (hval 0 22 v0 rfl rfl)
 have k0 := h0
 have lt0 : ∀ x ∈ p0, x.block < W.heap.size := by obtain ⟨m, hm⟩ := k0; exact DataW.trod_lt m _ _ _ hm
 obtain ⟨l0, e0, c0, w0⟩ : ∃ l : List S25, len0 = l.length ∧ l.length ≤ cap0 ∧ Kd.C k25 W a0 l.length l := by
  obtain ⟨fuel, hf⟩ := h0
  obtain ⟨A, l, c, hcs, hl, hC⟩ := open_book Tryz.underlying22 hf
  simp [Value.cells] at hcs
  obtain ⟨rfl, rfl, rfl⟩ := hcs
  exact ⟨l, rfl, hl, hC⟩
 subst e0
 obtain ⟨a1, rfl, rfl, rfl, w1⟩ := open_int Tryz.underlying3 (hval 1 3 v1 rfl rfl) h1
 obtain ⟨a2, len2, cap2, rfl⟩ := okWide_slice Tryz.underlying23 (hval 2 23 v2 rfl rfl)
 have k2 := h2
 have lt2 : ∀ x ∈ p2, x.block < W.heap.size := by obtain ⟨m, hm⟩ := k2; exact DataW.trod_lt m _ _ _ hm
 obtain ⟨l2, e2, c2, w2⟩ : ∃ l : List ByteArray, len2 = l.length ∧ l.length ≤ cap2 ∧ Kd.C Kd.string W a2 l.length l := by
  obtain ⟨fuel, hf⟩ := h2
  obtain ⟨A, l, c, hcs, hl, hC⟩ := open_S Tryz.underlying23 hf
  simp [Value.cells] at hcs
  obtain ⟨rfl, rfl, rfl⟩ := hcs
  exact ⟨l, rfl, hl, hC⟩
 subst e2
 obtain ⟨a3, rfl, rfl, rfl, y3⟩ := open_string Tryz.underlying9 (hval 3 9 v3 rfl rfl) h3
 clear hA0 hval0
 refine (order_calls a0 cap0 l0 a1 a2 cap2 l2 a3 W w0 c0 w2 c2).mono fun e W' ⟨he, bel⟩ => ?_
 subst he
 exact ⟨_, rfl, _, _, _, [], _, [], hW', trodAll_mk1 (shut_bool Tryz.underlying4 _), (trodAll_cons_mk (Below.trod laidOut (by kernel_rfl) (of_decide_eq_true (by kernel_rfl)) k0 bel lt0) (trodAll_cons_mk (shut_int Tryz.underlying3 w1) (trodAll_cons_mk (Below.trod laidOut (by kernel_rfl) (of_decide_eq_true (by kernel_rfl)) k2 bel lt2) (trodAll_cons_mk (shut_string Tryz.underlying9 y3) trodAll_mk0)))), rfl, bel.frame _, fun h => by cases h⟩
theorem over : Rows.protestOrderRow.holds Tryz.pinned (OpenSpec.ofChange Rows.protestOrderSpec) :=
 OpenClaim.holds_of_wide 6 Tryz.f6 rfl rfl rfl rfl rfl rfl rfl ⟨rfl, rfl, rfl, rfl, rfl⟩ rfl rfl rfl rfl rfl (by kernel_rfl) Tryz.func6 (by kernel_rfl)
  (of_decide_eq_true (by kernel_rfl)) (by unfold Func.isWrapper; first | (rw [if_pos (by decide +kernel)]; kernel_rfl) | (rw [if_neg (by decide +kernel)]; exact ⟨rfl, rfl⟩))
  (fun os started H enc _ => lifted os started H enc)
theorem proved : Rows.ProtestOrderSaid := over
theorem carded : Rows.ProtestOrderCardSaid :=
 Claim7.holds_tied_plain_at .later [] [.data, .pinned] true (true, "98843cd4e3891271ebdf8b02a3300920f08920e848e48566e9e63e5fe3d60fc8") true proved (fun _ h => by cases h) (by kernel_rfl) (fun _ h => by cases h) protestOrder_row_tie rfl ⟨rfl, rfl⟩ (by kernel_rfl) rfl
  (fun f fn hf hfn => by
   obtain rfl : f = 6 := Option.some.inj ((show Tryz.prog.funcNamed "besom/besomlaw09.ProtestOrder" = some 6 by kernel_rfl).symm.trans hf) |>.symm
   obtain rfl : fn = Tryz.f6 := (Option.some.inj (Tryz.func6.symm.trans hfn)).symm
   exact ⟨by kernel_rfl, fun j t ht => by
    rw [Tryz.params6] at ht
    have hm : t ∈ [22, 3, 23, 9] := by simpa using Array.mem_of_getElem? ht
    have hall : ([22, 3, 23, 9].all fun u => !Tryz.prog.wantsStandIn u) = true := by kernel_rfl
    exact (show Tryz.prog.wantsStandIn t = false by simpa using List.all_eq_true.1 hall t hm)⟩)
  (by kernel_rfl)
end Go.Proofs.YtlhkeohcickiaaaGreatDoor.protestOrder
namespace Go.Proofs.YtlhkeohcickiaaaGreatDoor
theorem protestOrder_card : Rows.ProtestOrderCardSaid := protestOrder.carded
end Go.Proofs.YtlhkeohcickiaaaGreatDoor

