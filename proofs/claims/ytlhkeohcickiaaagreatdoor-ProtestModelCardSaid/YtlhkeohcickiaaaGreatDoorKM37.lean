/- LawProtestModel, part 37 of 37: my texts (walks of the program over sparse frames, plain laws, and texts that print.py printed for this seat), without what the statement does not reach. -/
import Derived.Test.YtlhkeohcickiaaaGreatDoorKM33
import Derived.Test.YtlhkeohcickiaaaGreatDoorKM36
import Derived.Test.YtlhkeohcickiaaaGreatDoorKM21
import Derived.Test.YtlhkeohcickiaaaGreatDoorKM32
import Derived.Test.YtlhkeohcickiaaaGreatDoorKM28
import Derived.Deep.Slices
import Derived.Deep.Strs
import Derived.ChangeSlices
import Derived.DataElems
import Derived.Test.YtlhkeohcickiaaaGreatDoorRows
import Derived.Test.YtlhkeohcickiaaaGreatDoorTie
import Derived.Test.YtlhkeohcickiaaaGreatDoorCards
import Derived.WalkKit
import Derived.ProofKit
import Derived.OpenShut
import Derived.ShutString
import Derived.ChangeOld
import Derived.Below
import Derived.SizedLaws
import Derived.SevenTiedAt
import Derived.LaidMore
import Derived.Lay
import Derived.Stop.Joined
set_option linter.all false
namespace Go.Proofs.YtlhkeohcickiaaaGreatDoor.E
open Go.RowKit Go.Proofs.YtlhkeohcickiaaaGreatDoor.H Go.Proofs.YtlhkeohcickiaaaGreatDoorW.PrintWords Go.Proofs.YtlhkeohcickiaaaGreatDoorW.PrintLast Go.Proofs.YtlhkeohcickiaaaGreatDoorW.PrintMore
section
open Prot (heldOf derive proveL at_ stepOk)
theorem wrapN {i : Nat} (h : i < 9223372036854775807) : wrap64 ((i : Int) + 1) = ((i + 1 : Nat) : Int) := by rw [wrap64_of (by omega) (by omega)]; omega
end
section
open Prot (heldOf derive proveL at_ stepOk)
theorem ok_lens {l0 : List S25} {m : List (ByteArray × Nat)} (h : boundOf l0 = .ok m) : ∀ x ∈ l0, x.f3.length ≤ 8 ∧ x.f4.length ≤ 8 := fun x hx => by
 have := ok_parts ((okBook h).ok x hx)
 exact ⟨this.2.2.1.1, this.2.2.2.1⟩
theorem great_l1 (l0 : List S25) (l : List ByteArray) (x5 : Int) : ∀ (d i : Nat), i ≤ 100 → 100 - i = d → ∃ b, (∀ k, 2 * d + 4 < k → besomlaw09_great.l1 k l0 l x5 (i : Int) = some b) ∧ (b = false → l0.length ≤ 70 ∧ l.length ≤ 70) := by
 have fin : ∃ b, (∀ k i, 0 < k → besomlaw09_great.j3 k l0 l x5 i false = some b) ∧ (b = false → l0.length ≤ 70 ∧ l.length ≤ 70) := by
  by_cases h1 : (l0.length : Int) > 70
  ·refine ⟨true, fun k i hk => ?_, by simp⟩
   obtain ⟨k, rfl⟩ : ∃ m, k = m + 1 := ⟨k - 1, by omega⟩
   simp only [besomlaw09_great.j3]
   rw [if_neg (by decide), if_pos h1]
  ·by_cases h2 : (l.length : Int) > 70
   ·refine ⟨true, fun k i hk => ?_, by simp⟩
    obtain ⟨k, rfl⟩ : ∃ m, k = m + 1 := ⟨k - 1, by omega⟩
    simp only [besomlaw09_great.j3]
    rw [if_neg (by decide), if_neg h1, if_pos h2]
   ·refine ⟨decide (x5 > 300), fun k i hk => ?_, fun _ => by omega⟩
    obtain ⟨k, rfl⟩ : ∃ m, k = m + 1 := ⟨k - 1, by omega⟩
    simp only [besomlaw09_great.j3]
    rw [if_neg (by decide), if_neg h1, if_neg h2]
 obtain ⟨b0, f1, f2⟩ := fin
 intro d
 induction d with
 | zero =>
  intro i h1 h2
  refine ⟨b0, fun k hk => ?_, f2⟩
  obtain ⟨k, rfl⟩ : ∃ m, k = m + 1 := ⟨k - 1, by omega⟩
  simp only [besomlaw09_great.l1]
  split
  ·rw [show decide ((i : Int) < 100) = false from decide_eq_false (by omega), f1 k _ (by omega)]
  ·rw [f1 k _ (by omega)]
 | succ d ih =>
  intro i h1 h2
  by_cases hi : i < l.length
  ·by_cases hz : ((rdOf ByteArray.empty l (i : Int)).size : Int) > 100
   ·refine ⟨true, fun k hk => ?_, by simp⟩
    obtain ⟨k, rfl⟩ : ∃ m, k = m + 2 := ⟨k - 2, by omega⟩
    simp only [besomlaw09_great.l1]
    rw [if_pos (by omega), show decide ((i : Int) < 100) = true from decide_eq_true (by omega)]
    simp only [besomlaw09_great.j3]
    simp only [↓reduceIte]
    rw [if_pos (by omega), if_pos (by omega), if_pos hz]
   ·obtain ⟨b, g1, g2⟩ := ih (i + 1) (by omega) (by omega)
    refine ⟨b, fun k hk => ?_, g2⟩
    obtain ⟨k, rfl⟩ : ∃ m, k = m + 2 := ⟨k - 2, by omega⟩
    simp only [besomlaw09_great.l1]
    rw [if_pos (by omega), show decide ((i : Int) < 100) = true from decide_eq_true (by omega)]
    simp only [besomlaw09_great.j3]
    simp only [↓reduceIte]
    rw [if_pos (by omega), if_pos (by omega), if_neg hz, wrapN (by omega), g1 k (by omega)]
  ·refine ⟨b0, fun k hk => ?_, f2⟩
   obtain ⟨k, rfl⟩ : ∃ m, k = m + 1 := ⟨k - 1, by omega⟩
   simp only [besomlaw09_great.l1]
   rw [if_neg (by omega), f1 k _ (by omega)]
theorem great_l0 (l0 : List S25) (l : List ByteArray) : ∀ (d i : Nat) (x5 : Int), i ≤ 100 → 100 - i = d → ∃ b, (∀ k, d + 300 < k → besomlaw09_great.l0 k l0 l x5 (i : Int) = some b) ∧ (b = false → l0.length ≤ 70 ∧ l.length ≤ 70) := by
 have fin : ∀ x5 : Int, ∃ b, (∀ k, 250 < k → besomlaw09_great.j1 k l0 l x5 = some b) ∧ (b = false → l0.length ≤ 70 ∧ l.length ≤ 70) := fun x5 => by
  obtain ⟨b, g1, g2⟩ := great_l1 l0 l x5 100 0 (by omega) (by omega)
  refine ⟨b, fun k hk => ?_, g2⟩
  obtain ⟨k, rfl⟩ : ∃ m, k = m + 1 := ⟨k - 1, by omega⟩
  simp only [besomlaw09_great.j1]
  exact g1 k (by omega)
 intro d
 induction d with
 | zero =>
  intro i x5 h1 h2
  obtain ⟨b0, f1, f2⟩ := fin x5
  refine ⟨b0, fun k hk => ?_, f2⟩
  obtain ⟨k, rfl⟩ : ∃ m, k = m + 1 := ⟨k - 1, by omega⟩
  simp only [besomlaw09_great.l0]
  split
  ·rw [if_neg (by omega), f1 k (by omega)]
  ·rw [f1 k (by omega)]
 | succ d ih =>
  intro i x5 h1 h2
  by_cases hi : (i : Int) < (l0.length : Int)
  ·obtain ⟨b, g1, g2⟩ := ih (i + 1) (wrap64 ((wrap64 ((wrap64 (x5 + (((rd_T25 l0 (i : Int)).f3).length : Int))) + (((rd_T25 l0 (i : Int)).f4).length : Int))) + (wrap64 (Int.tdiv (wrap64 ((((rd_T25 l0 (i : Int)).f0).size : Int) + (((rd_T25 l0 (i : Int)).f5).size : Int))) 50)))) (by omega) (by omega)
   refine ⟨b, fun k hk => ?_, g2⟩
   obtain ⟨k, rfl⟩ : ∃ m, k = m + 1 := ⟨k - 1, by omega⟩
   simp only [besomlaw09_great.l0]
   rw [if_pos hi, if_pos (by omega), if_pos (by omega), wrapN (by omega), g1 k (by omega)]
  ·obtain ⟨b0, f1, f2⟩ := fin x5
   refine ⟨b0, fun k hk => ?_, f2⟩
   obtain ⟨k, rfl⟩ : ∃ m, k = m + 1 := ⟨k - 1, by omega⟩
   simp only [besomlaw09_great.l0]
   rw [if_neg hi, f1 k (by omega)]
theorem great_ex (l0 : List S25) (l : List ByteArray) : ∃ b, (∀ k, 400 < k → besomlaw09_great.f k l0 l = some b) ∧ (b = false → l0.length ≤ 70 ∧ l.length ≤ 70) := by
 obtain ⟨b, g1, g2⟩ := great_l0 l0 l 100 0 (l.length : Int) (by omega) (by omega)
 exact ⟨b, fun k hk => g1 k (by omega), g2⟩
end
section
open Prot (heldOf derive proveL at_ stepOk thens isProof)
theorem asked_model {l0 : List S25} {ed : Int} {facts : List ByteArray} {m : List (ByteArray × Nat)} {o : List Nat} (h : askedOf l0 ed facts = .ok (m, o)) : Prot.Model ed (l0.map toC) facts o :=
 have h' := asked_ok h
 model_of h'.1 h'.2
theorem prot_holds_ok {l0 : List S25} {ed : Int} {facts : List ByteArray} {m : List (ByteArray × Nat)} {o : List Nat} (h : askedOf l0 ed facts = .ok (m, o)) : protest_Holds.f l0 ed facts = some (factsOf (heldOf (l0.map toC) facts o), 0) := by
 unfold protest_Holds.f holdsOf
 rw [h]
theorem prot_holds_err {l0 : List S25} {ed : Int} {facts : List ByteArray} {p : Int × Int} (h : askedOf l0 ed facts = .error p) : protest_Holds.f l0 ed facts = some ([], p.2) := by
 unfold protest_Holds.f holdsOf
 rw [h]
theorem prot_why_ok {l0 : List S25} {ed : Int} {facts : List ByteArray} {m : List (ByteArray × Nat)} {o : List Nat} (h : askedOf l0 ed facts = .ok (m, o)) {c : ByteArray} (hn : nameB c = true) (hc : c ∈ heldOf (l0.map toC) facts o) :
  protest_Why.f l0 ed facts c = some (ints (derive (l0.map toC) o c), 0) := by
 unfold protest_Why.f whyOf
 rw [h]
 have : has (setOf (heldOf (l0.map toC) facts o)) c = true := by rw [has_setOf]; exact decide_eq_true hc
 simp only [hn, this, if_true]
theorem index_of {l0 : List S25} {l : List Nat} (h : ∀ i ∈ l, i < l0.length) : indexB l0.length (ints l) = true := by
 unfold indexB ints
 rw [List.all_eq_true]
 intro x hx
 obtain ⟨i, hi, rfl⟩ := List.mem_map.1 hx
 have := h i hi
 simp only [Bool.and_eq_true, decide_eq_true_eq]
 show 0 ≤ ((i : Nat) : Int) ∧ ((i : Nat) : Int) ≤ _
 omega
theorem ints_back (l : List Nat) : (ints l).map Int.toNat = l := by
 unfold ints
 rw [List.map_map]
 conv => rhs; rw [← List.map_id l]
 exact List.map_congr_left fun _ _ => rfl
theorem prot_proves_ok {l0 : List S25} {ed : Int} {facts : List ByteArray} {m : List (ByteArray × Nat)} {o : List Nat} (h : askedOf l0 ed facts = .ok (m, o)) {c : ByteArray} (hn : nameB c = true) {l : List Nat} (hl : ∀ i ∈ l, i < l0.length) :
  protest_Proves.f l0 ed facts (ints l) c = some (isProof ed (l0.map toC) facts (heldOf (l0.map toC) facts o) l c, atOf (proveL ed (l0.map toC) (heldOf (l0.map toC) facts o) l facts 0).1, 0) := by
 unfold protest_Proves.f provesOf
 rw [h]
 simp only [hn, index_of hl, if_true, ints_back]
 unfold isProof
 rw [← cont_has]
theorem filter_none {l b : List ByteArray} (h : ∀ x ∈ l, x ∈ b) : (l.filter fun s => !decide (s ∈ b)) = [] := by
 rw [List.filter_eq_nil_iff]
 intro x hx
 simp [h x hx]
theorem tmod_in {a n : Int} (h0 : 0 ≤ a) (hn : 0 < n) : 0 ≤ Int.tmod a n ∧ Int.tmod a n < n := ⟨Int.tmod_nonneg _ h0, Int.tmod_lt_of_pos _ hn⟩
def firedL (l0 : List S25) (ed : Int) (H : List ByteArray) : List ByteArray := (l0.filter fun x => Prot.firesB ed H (toC x)).map (·.f5)
theorem fired_take (l0 : List S25) (ed : Int) (H : List ByteArray) (i : Nat) (hi : i < l0.length) : firedL (l0.take (i + 1)) ed H = firedL (l0.take i) ed H ++ if Prot.firesB ed H (toC l0[i]) = true then [l0[i].f5] else [] := by
 unfold firedL
 rw [← List.take_append_getElem hi, List.filter_append, List.map_append, List.filter_cons]
 by_cases h : Prot.firesB ed H (toC l0[i]) = true <;> simp [h]
theorem fired_len (l0 : List S25) (ed : Int) (H : List ByteArray) : (firedL l0 ed H).length ≤ l0.length := by
 unfold firedL
 rw [List.length_map]
 exact List.length_filter_le _ _
theorem Model_loop (l0 : List S25) (a1 : Int) (l2 : List ByteArray) (a3 a4 : Int) (H : List ByteArray) (hl0 : l0.length ≤ 64) (hl2 : l2.length ≤ 70) (hH : H.length ≤ 128) (hx : ∀ x ∈ l0, x.f3.length ≤ 8 ∧ x.f4.length ≤ 8)
  (h1 : ∀ x ∈ firedL l0 a1 H, x ∈ H) (h2 : ∀ x ∈ H, x ∈ l2 ++ firedL l0 a1 H) (h0 : ∀ k, 100000 ≤ k → besomlaw09_ProtestModel.j2 k l0 a1 l2 a3 a4 H false = some true) :
  ∀ (d k i : Nat), i ≤ l0.length → l0.length - i = d → 100000 + d < k → besomlaw09_ProtestModel.l0 k l0 a1 l2 a3 a4 H (firedL (l0.take i) a1 H) (i : Int) = some true := by
 intro d
 induction d with
 | zero =>
  intro k i g1 g2 g3
  obtain ⟨k, rfl⟩ : ∃ m, k = m + 1 := ⟨k - 1, by omega⟩
  have hf := fired_len l0 a1 H
  simp only [besomlaw09_ProtestModel.l0]
  rw [if_neg (by omega), List.take_of_length_le (by omega), Less_eq _ _ _ (by omega) (by omega) (by omega), Option.bind_some, filter_none h1]
  simp only [List.length_nil, Option.bind_some, List.nil_append]
  rw [if_neg (by decide), if_pos (by omega), if_pos (by omega), Less_eq _ _ _ (by rw [List.length_append]; omega) (by omega) (by rw [List.length_append]; omega), Option.bind_some, filter_none h2]
  exact h0 k (by omega)
 | succ d ih =>
  intro k i g1 g2 g3
  obtain ⟨k, rfl⟩ : ∃ m, k = m + 1 := ⟨k - 1, by omega⟩
  have hi : i < l0.length := by omega
  have hxm := hx _ (List.getElem_mem hi)
  have hf := fired_len (l0.take i) a1 H
  rw [List.length_take] at hf
  have := ih k (i + 1) (by omega) (by omega) (by omega)
  rw [fired_take _ _ _ _ hi] at this
  simp only [besomlaw09_ProtestModel.l0]
  rw [if_pos (by omega), if_pos (by omega), rdT_at l0 i hi, Fires_eq _ _ _ _ (by omega) (by omega) (by omega) (by omega), Option.bind_some, wrapM (by omega)]
  by_cases e : Prot.firesB a1 H (toC l0[i]) = true
  ·rw [if_pos e] at this ⊢
   rw [if_pos (by omega)]
   exact this
  ·rw [if_neg e] at this ⊢
   rw [List.append_nil] at this
   exact this
theorem fires_factsOf (ed : Int) (held : List ByteArray) (c : Prot.Cl ByteArray) : Prot.firesB ed (factsOf held) c = Prot.firesB ed held c := by
 rw [Bool.eq_iff_iff, Prot.firesB_iff, Prot.firesB_iff]
 simp only [mem_factsOf]
theorem Model_j3 (l0 : List S25) (a1 : Int) (l2 : List ByteArray) (a4 : Int) (c : ByteArray) (m : List (ByteArray × Nat)) (o : List Nat) (h : askedOf l0 a1 l2 = .ok (m, o)) (h4 : 0 ≤ a4 ∧ a4 < 256) (hn : nameB c = true) (hc : c ∈ heldOf (l0.map toC) l2 o) (k : Nat) (hk : 0 < k) :
  besomlaw09_ProtestModel.j3 k l0 a1 l2 a4 c (ints (derive (l0.map toC) o c)) false = some true := by
 obtain ⟨k, rfl⟩ : ∃ m, k = m + 1 := ⟨k - 1, by omega⟩
 have M := asked_model h
 have hlen := held_length h
 obtain ⟨D, hD⟩ : ∃ D, D = derive (l0.map toC) o c := ⟨_, rfl⟩
 have hDl : D.length ≤ 64 := by
  have : D.length ≤ o.length := by rw [hD]; exact List.length_filter_le _ _
  omega
 have hDi : ∀ i ∈ D, i < l0.length := fun i hi => by
  have := M.lt i (by rw [hD] at hi; exact (Prot.mem_derive.1 hi).mem)
  rwa [List.length_map] at this
 rw [← hD]
 have hil : (ints D).length = D.length := by simp [ints]
 simp only [besomlaw09_ProtestModel.j3]
 rw [if_neg (by decide)]
 by_cases h0 : ((ints D).length : Int) = 0
 ·rw [if_pos h0]; simp [besomlaw09_awake.f]
 ·obtain ⟨q0, q1⟩ := tmod_in (a := a4) (n := ((ints D).length : Int)) h4.1 (by omega)
  rw [if_neg h0, wrap64_of (x := a4) (by omega) (by omega)]
  obtain ⟨t, ht⟩ : ∃ t : Nat, Int.tmod a4 ((ints D).length : Int) = (t : Int) := ⟨(Int.tmod a4 ((ints D).length : Int)).toNat, by omega⟩
  rw [ht] at q0 q1 ⊢
  have htl : t < D.length := by omega
  have hL := Prot.derive_least M c t (by rw [← hD]; exact htl)
  rw [← hD] at hL
  have e1 : (ints D).take t = ints (D.take t) := by simp [ints, List.map_take]
  have e2 : (ints D).drop (t + 1) = ints (D.drop (t + 1)) := by simp [ints, List.map_drop]
  have e3 : ints (D.take t) ++ ints (D.drop (t + 1)) = ints (D.take t ++ D.drop (t + 1)) := by simp [ints]
  have hP := prot_proves_ok h hn (l := D.take t ++ D.drop (t + 1)) (fun i hi => by
   rcases List.mem_append.1 hi with hi | hi
   ·exact hDi i (List.mem_of_mem_take hi)
   ·exact hDi i (List.mem_of_mem_drop hi))
  rw [hL] at hP
  have z1 : (ints (D.take t)).length ≤ 64 := by rw [← e1, List.length_take]; omega
  have z2 : (ints (D.drop (t + 1))).length ≤ 64 := by rw [← e2, List.length_drop]; omega
  have z3 : ([] ++ ints (D.take t) : List Int) = ints (D.take t) := List.nil_append _
  rw [Option.bind_some, if_pos (by omega), if_pos (by omega), Int.toNat_natCast, e1, Option.bind_some, if_pos (by rw [List.length_nil]; omega), Option.bind_some, wrapM (by omega), if_pos (by omega), if_pos (by omega), Int.toNat_natCast, e2, Option.bind_some, if_pos (by rw [z3]; omega), z3, e3, hP, Option.bind_some, if_neg Bool.false_ne_true, if_pos rfl]
  rfl
theorem Model_j2 (l0 : List S25) (a1 : Int) (l2 : List ByteArray) (a3 a4 : Int) (m : List (ByteArray × Nat)) (o : List Nat) (h : askedOf l0 a1 l2 = .ok (m, o)) (h3 : 0 ≤ a3 ∧ a3 < 256) (h4 : 0 ≤ a4 ∧ a4 < 256) (hl2 : l2.length ≤ 70) (k : Nat) (hk : 100000 ≤ k) :
  besomlaw09_ProtestModel.j2 k l0 a1 l2 a3 a4 (factsOf (heldOf (l0.map toC) l2 o)) false = some true := by
 obtain ⟨k, rfl⟩ : ∃ m, k = m + 1 := ⟨k - 1, by omega⟩
 have M := asked_model h
 obtain ⟨hb, hm⟩ := asked_ok h
 have hnm := (held_names (okBook hb) hm).1
 obtain ⟨F, hF⟩ : ∃ F, F = factsOf (heldOf (l0.map toC) l2 o) := ⟨_, rfl⟩
 rw [← hF]
 have hFl : F.length ≤ 128 := by rw [hF]; exact Nat.le_trans (factsOf_length _) (held_length h).1
 simp only [besomlaw09_ProtestModel.j2]
 rw [if_neg (by decide)]
 by_cases h0 : (F.length : Int) = 0
 ·rw [if_pos h0]; simp [besomlaw09_awake.f]
 ·obtain ⟨q0, q1⟩ := tmod_in (a := a3) (n := (F.length : Int)) h3.1 (by omega)
  rw [if_neg h0, wrap64_of (x := a3) (by omega) (by omega)]
  obtain ⟨t, ht⟩ : ∃ t : Nat, Int.tmod a3 (F.length : Int) = (t : Int) := ⟨(Int.tmod a3 (F.length : Int)).toNat, by omega⟩
  rw [ht] at q0 q1 ⊢
  have htl : t < F.length := by omega
  rw [if_pos q0, if_pos q1, getD_in _ _ htl]
  have hc : F[t] ∈ heldOf (l0.map toC) l2 o := mem_factsOf.1 (by rw [← hF]; exact List.getElem_mem htl)
  obtain ⟨c, hcc⟩ : ∃ c, c = F[t] := ⟨_, rfl⟩
  rw [← hcc] at hc ⊢
  have hn := hnm c hc
  obtain ⟨p1, p2⟩ := Prot.derive_proof M c hc
  have hD : ∀ i ∈ derive (l0.map toC) o c, i < l0.length := fun i hi => by
   have := M.lt i (Prot.mem_derive.1 hi).mem
   rwa [List.length_map] at this
  have hP := prot_proves_ok h hn (l := derive (l0.map toC) o c) hD
  have hiP : isProof a1 (l0.map toC) l2 (heldOf (l0.map toC) l2 o) (derive (l0.map toC) o c) c = true := by
   unfold isProof
   rw [p1]
   simpa using p2
  rw [hiP, p1] at hP
  have hP2 : protest_Proves.f l0 a1 l2 (ints (derive (l0.map toC) o c)) c = some (true, -1, 0) := by rw [hP]; rfl
  rw [prot_why_ok h hn hc, Option.bind_some, hP2, Option.bind_some, if_pos rfl, if_pos rfl, if_pos rfl, if_pos rfl, Has_eq _ _ _ (by omega) (by omega), Option.bind_some]
  have hz : ((((ints (derive (l0.map toC) o c)).length : Int) == 0) != decide (c ∈ l2)) = false := by
   have e := Prot.derive_nil M c hc
   by_cases hf : c ∈ l2
   ·rw [e.2 hf]; simp [hf, ints]
   ·have : derive (l0.map toC) o c ≠ [] := fun h => hf (e.1 h)
    have hl : (ints (derive (l0.map toC) o c)).length ≠ 0 := by simpa [ints] using this
    simp [hf]
    simpa [ints] using this
  rw [hz]
  exact Model_j3 l0 a1 l2 a4 c m o h h4 hn hc k (by omega)
theorem ProtestModel_true (l0 : List S25) (a1 : Int) (l2 : List ByteArray) (a3 a4 : Int) (h3 : 0 ≤ a3 ∧ a3 < 256) (h4 : 0 ≤ a4 ∧ a4 < 256) : ∃ k, besomlaw09_ProtestModel.f k l0 a1 l2 a3 a4 = some true := by
 obtain ⟨b, g1, g2⟩ := great_ex l0 l2
 refine ⟨10000000, ?_⟩
 unfold besomlaw09_ProtestModel.f
 rw [g1 _ (by omega), Option.bind_some]
 cases b with
 | true => rfl
 | false =>
  obtain ⟨hl0, hl2⟩ := g2 rfl
  rw [if_neg (by decide)]
  cases ha : askedOf l0 a1 l2 with
  | error p =>
   rw [prot_holds_err ha, Option.bind_some]
   have := asked_err ha
   rw [if_neg this]
   rfl
  | ok mo =>
   obtain ⟨m, o⟩ := mo
   have M := asked_model ha
   obtain ⟨hb, hm⟩ := asked_ok ha
   have hok := okBook hb
   have hlen := held_length ha
   have hFl := factsOf_length (heldOf (l0.map toC) l2 o)
   have hsub : ∀ x ∈ l2, x ∈ factsOf (heldOf (l0.map toC) l2 o) := fun x hx => mem_factsOf.2 (Prot.mem_heldOf.2 (.inl hx))
   have hlen0 := hok.len
   rw [prot_holds_ok ha, Option.bind_some]
   dsimp only
   rw [if_pos rfl, Rising_eq _ _ (by omega) (by omega), Option.bind_some, factsOf_id (factsOf_strict _), Same_eq _ _ _ (by omega) (by omega), Option.bind_some, if_pos (by simp), Less_eq _ _ _ (by omega) (by omega) (by omega), Option.bind_some, filter_none hsub]
   show besomlaw09_ProtestModel.j0 (9999999 + 1) l0 a1 l2 a3 a4 _ false = some true
   simp only [besomlaw09_ProtestModel.j0]
   rw [if_neg (by decide)]
   have := Model_loop l0 a1 l2 a3 a4 (factsOf (heldOf (l0.map toC) l2 o)) hok.len hl2 (by omega) (ok_lens hb) (fun x hx => by
     unfold firedL at hx
     obtain ⟨c, hc, rfl⟩ := List.mem_map.1 hx
     obtain ⟨hc1, hc2⟩ := List.mem_filter.1 hc
     rw [fires_factsOf] at hc2
     exact mem_factsOf.2 (M.closed (toC c) (List.mem_map_of_mem hc1) hc2)) (fun x hx => by
     rcases Prot.mem_heldOf.1 (mem_factsOf.1 hx) with h | ⟨i, hi, rfl⟩
     ·exact List.mem_append_left _ h
     ·refine List.mem_append_right _ ?_
      have hil : i < l0.length := by have := M.lt i hi; rwa [List.length_map] at this
      have hat : at_ (l0.map toC) i = toC l0[i] := by simp [at_, List.getD_eq_getElem?_getD, List.getElem?_eq_getElem hil]
      rw [hat]
      unfold firedL
      refine List.mem_map.2 ⟨l0[i], List.mem_filter.2 ⟨List.getElem_mem hil, ?_⟩, rfl⟩
      obtain ⟨pre, post, hpp⟩ := List.append_of_mem hi
      obtain ⟨s1, s2, s3⟩ := M.came pre i post hpp
      rw [hat] at s1 s2 s3
      rw [fires_factsOf, Prot.firesB_iff]
      refine ⟨s1, fun f hf => ?_, s3⟩
      have := s2 f hf
      rw [hpp, Prot.heldOf_append]
      exact List.mem_append_left _ this) (fun k hk => Model_j2 l0 a1 l2 a3 a4 m o ha h3 h4 hl2 k hk) l0.length 9999999 0 (by omega) (by omega) (by omega)
   simpa [firedL] using this
theorem wf_u8 {n : Int} (h : (Lit.int .u8 n).wf = true) : 0 ≤ n ∧ n < 256 := by
 have h1 : IntKind.u8.min = 0 := by kernel_rfl
 have h2 : IntKind.u8.max = 255 := by kernel_rfl
 simp [Lit.wf, h1, h2] at h
 omega
end
section
section
variable {H : Type} {enc : TypeId × Value → H} {w : World} {base : Nat} {spare : Nat → Bool} {held : Bool} {fuel : Nat} {cs : List Value} {x : DataW H × List MemPlace}
theorem open_S {t : TypeId} (ht : Tryz.prog.underlying t = some (.slice 9)) (h : DataW.trod enc Tryz.prog w base spare held fuel t cs = some x) : ∃ A l c, cs = [.slice A (l : List ByteArray).length c] ∧ l.length ≤ c ∧ Kd.C Kd.string w A l.length l := by
 rcases Go.Deep.open_strs ht Tryz.underlying9 (by kernel_rfl) h with ⟨rfl, _⟩ | ⟨a, len, cap, m, Sx, rfl, _, hl, hm, hmm, _, hc⟩
 ·exact ⟨none, [], 0, rfl, Nat.le_refl _, rfl, by decide, fun h => absurd h (by decide)⟩
 ·have hlm : len ≤ m := by rw [hmm]; split <;> omega
  refine ⟨some a, (List.range len).map Sx, cap, by simp, by simpa using hl, rfl, by simp only [List.length_map, List.length_range, maxLen] at *; omega, fun _ => ⟨a, rfl, fun j p hj => ⟨[.string p], rfl, rfl, fun i u hu => ?_⟩⟩⟩
  obtain ⟨hjl, rfl⟩ : j < len ∧ p = Sx j := by
   rw [List.getElem?_map] at hj
   obtain ⟨q, hq, rfl⟩ := Option.map_eq_some_iff.1 hj
   obtain ⟨h1, h2⟩ := List.getElem?_eq_some_iff.1 hq
   simp only [List.length_range] at h1
   rw [List.getElem_range] at h2
   subst h2
   exact ⟨h1, rfl⟩
  cases i with
  | succ n => simp at hu
  | zero =>
   simp at hu
   subst hu
   show w.cell? (a.add (j * 1 + 0)) = _
   rw [Nat.mul_one, Nat.add_zero]
   exact (hc j (by omega)).1
set_option maxRecDepth 100000 in
theorem open_cl (h : DataW.trod enc Tryz.prog w base spare held fuel 25 cs = some x) : ∃ y : S25, k25.K w y cs := by
 obtain ⟨xs, n, _, _, hl, hlen, hf⟩ := DataW.trod_struct Tryz.underlying25 h
 have hl6 : cs.length = 6 := hl.trans (by kernel_rfl)
 have e9 : Tryz.prog.cellsOf 9 = 1 := by kernel_rfl
 have e3 : Tryz.prog.cellsOf 3 = 1 := by kernel_rfl
 have e23 : Tryz.prog.cellsOf 23 = 1 := by kernel_rfl
 have hx6 : xs.length = 6 := hlen
 match cs, hl6 with
 | [v0, v1, v2, v3, v4, v5], _ =>
  match xs, hx6 with
  | [y0, y1, y2, y3, y4, y5], _ =>
   have f0 := hf 0 _ rfl
   have f1 := hf 1 _ rfl
   have f2 := hf 2 _ rfl
   have f3 := hf 3 _ rfl
   have f4 := hf 4 _ rfl
   have f5 := hf 5 _ rfl
   simp only [e9, e3, e23, List.drop_zero, List.drop_succ_cons, List.take_succ_cons, List.take_zero, List.getElem?_cons_zero, List.getElem?_cons_succ] at f0 f1 f2 f3 f4 f5
   obtain ⟨s0, g0, _⟩ := DataW.trod_string Tryz.underlying9 f0
   obtain ⟨n1, g1, _⟩ := DataW.trod_int Tryz.underlying3 f1
   obtain ⟨n2, g2, _⟩ := DataW.trod_int Tryz.underlying3 f2
   obtain ⟨A3, l3, c3, g3, h3, q3⟩ := open_S Tryz.underlying23 f3
   obtain ⟨A4, l4, c4, g4, h4, q4⟩ := open_S Tryz.underlying23 f4
   obtain ⟨s5, g5, _⟩ := DataW.trod_string Tryz.underlying9 f5
   cases g0; cases g1; cases g2; cases g3; cases g4; cases g5
   exact ⟨⟨s0, n1, n2, l3, l4, s5⟩, k25_mk w ⟨s0, n1, n2, l3, l4, s5⟩ h3 q3 h4 q4⟩
theorem open_book {t : TypeId} (ht : Tryz.prog.underlying t = some (.slice 25)) (h : DataW.trod enc Tryz.prog w base spare held fuel t cs = some x) : ∃ A l c, cs = [.slice A (l : List S25).length c] ∧ l.length ≤ c ∧ Kd.C k25 w A l.length l := by
 rcases Go.Deep.open_slice ht h with ⟨rfl, _⟩ | ⟨a, len, cap, m, n, D, Pl, rfl, _, hl, hm, hmm, _, hc⟩
 ·exact ⟨none, [], 0, rfl, Nat.le_refl _, rfl, by decide, fun h => absurd h (by decide)⟩
 ·have hlm : len ≤ m := by rw [hmm]; split <;> omega
  have e25 : Tryz.prog.cellsOf 25 = 6 := by kernel_rfl
  have each : ∀ i, i < m → ∃ y : S25, ∃ cs', cs'.length = 6 ∧ k25.K w y cs' ∧ ∀ j, j < 6 → w.cell? ((a.add (i * 6)).add j) = cs'[j]? := fun i hi => by
   obtain ⟨cs', h1, h2⟩ := hc i hi
   rw [e25] at h1
   obtain ⟨_, h3, h4⟩ := World.cells?_some h1
   obtain ⟨y, hy⟩ := open_cl h2
   exact ⟨y, cs', h3, hy, h4⟩
  have : ∃ Y : Nat → S25, ∀ i, i < m → ∃ cs', cs'.length = 6 ∧ k25.K w (Y i) cs' ∧ ∀ j, j < 6 → w.cell? ((a.add (i * 6)).add j) = cs'[j]? := by
   refine ⟨fun i => if h : i < m then (each i h).choose else z25, fun i hi => ?_⟩
   simp only [hi, dif_pos]
   exact (each i hi).choose_spec
  obtain ⟨Y, hY⟩ := this
  refine ⟨some a, (List.range len).map Y, cap, by simp, by simpa using hl, rfl, by simp only [List.length_map, List.length_range, maxLen] at *; omega, fun _ => ⟨a, rfl, fun j p hj => ?_⟩⟩
  obtain ⟨hjl, rfl⟩ : j < len ∧ p = Y j := by
   rw [List.getElem?_map] at hj
   obtain ⟨q, hq, rfl⟩ := Option.map_eq_some_iff.1 hj
   obtain ⟨h1, h2⟩ := List.getElem?_eq_some_iff.1 hq
   simp only [List.length_range] at h1
   rw [List.getElem_range] at h2
   subst h2
   exact ⟨h1, rfl⟩
  obtain ⟨cs', h1, h2, h3⟩ := hY j (by omega)
  refine ⟨cs', h1, h2, fun i u hu => ?_⟩
  have hi6 : i < 6 := by have := (List.getElem?_eq_some_iff.1 hu).1; omega
  have := h3 i hi6
  rw [hu] at this
  rw [← this]
  show w.cell? (a.add (j * 6 + i)) = w.cell? ((a.add (j * 6)).add i)
  rw [Go.Addr.add_add]
end
end
end Go.Proofs.YtlhkeohcickiaaaGreatDoor.E
namespace Go.Proofs.YtlhkeohcickiaaaGreatDoor.protestModel
open Go.ChangeShapes Go.WideShapes Go.ChangeAt Go.RowKit Go.Proofs.YtlhkeohcickiaaaGreatDoor.E Go.Proofs.YtlhkeohcickiaaaGreatDoorW.PrintWords Go.Proofs.YtlhkeohcickiaaaGreatDoorW.PrintLast Go.Proofs.YtlhkeohcickiaaaGreatDoorW.PrintMore
open Go.ChangeMaps (open_string shut_string)
theorem own : ownKnob Tryz.prog.godebug = none := by kernel_rfl
theorem laidOut : laidOutB Tryz.prog = true := by kernel_rfl
set_option maxRecDepth 100000 in
theorem lifted (os : Os) (started : os.Started) (H : Type) (enc : TypeId × Value → H) :
  ReturnsInHanded {} Tryz.checked os 5 .any (fun w args => (Rows.protestModelSpec.pre enc Tryz.prog Tryz.f5 Rows.protestModelRow.domain false w args ∧ laidMetH Tryz.prog Rows.protestModelRow.laid w) ∧ sizedMet enc Tryz.prog Tryz.f5 (OpenSpec.ofChange Rows.protestModelSpec) false w args)
   (Rows.protestModelSpec.post enc Tryz.prog Tryz.f5 false true false false) := by
 refine returnsInHanded_of_change_and (C := Tryz.checked) (X := fun w _ => laidMetH Tryz.prog Rows.protestModelRow.laid w) (fun _ _ _ hh h => h.of_heap hh) own started (by kernel_rfl) Tryz.func5
  (ChangeSpec.witness_shaped (enc := enc) (C := Tryz.checked) (os := os) (X := fun w _ => laidMetH Tryz.prog Rows.protestModelRow.laid w) false (World.laidAll Tryz.prog os Rows.protestModelRow.laid) #[.slice none 0 0, .int .i64 0, .slice none 0 0, .int .u8 0, .int .u8 0] 8 (World.laidAll_os _ _ _)
   (World.shaped_of_ZipB (by kernel_rfl) (by kernel_rfl)) (by kernel_rfl) (by kernel_rfl) (by kernel_rfl)
   (by rw [MakeChecks.laidMetH_plain _ _ _ (by kernel_rfl)]; exact laidMet_laidAll _ (by kernel_rfl) (by kernel_rfl))) ?_
 intro W base args ds gs before hval0 hW hc _ hL _
 have hval : ∀ (j : Nat) t v, Tryz.f5.params[j]? = some t → args[j]? = some v → Value.okWide Tryz.prog W .any base t v := hval0
 have hW' := hW
 obtain ⟨p, q, hA0, hV, rfl, hfz, hnd⟩ := hW
 have hA : DataW.TrodAll enc Tryz.prog W 0 (fun _ => true) true Tryz.f5.params.toList args.toList ds p := hA0
 rw [Tryz.params5] at hA hval
 obtain ⟨v0, vs0, d0, ds0, p0, q0, hargs, rfl, rfl, h0, r0⟩ := trodAll_cons hA
 obtain ⟨v1, vs1, d1, ds1, p1, q1, rfl, rfl, rfl, h1, r1⟩ := trodAll_cons r0
 obtain ⟨v2, vs2, d2, ds2, p2, q2, rfl, rfl, rfl, h2, r2⟩ := trodAll_cons r1
 obtain ⟨v3, vs3, d3, ds3, p3, q3, rfl, rfl, rfl, h3, r3⟩ := trodAll_cons r2
 obtain ⟨v4, vs4, d4, ds4, p4, q4, rfl, rfl, rfl, h4, r4⟩ := trodAll_cons r3
 obtain ⟨rfl, rfl, rfl⟩ := trodAll_nil r4
 obtain rfl : args = #[v0, v1, v2, v3, v4] := by cases args; simp_all
 obtain ⟨rfl, rfl⟩ := trodVars_none hV
 obtain ⟨a0, len0, cap0, rfl⟩ := okWide_slice Tryz.underlying22 (hval 0 22 v0 rfl rfl)
 have k0 := h0
 have lt0 : ∀ x ∈ p0, x.block < W.heap.size := by obtain ⟨m, hm⟩ := k0; exact DataW.trod_lt m _ _ _ hm
 obtain ⟨l0, e0, c0, w0⟩ : ∃ l : List S25, len0 = l.length ∧ l.length ≤ cap0 ∧ Kd.C k25 W a0 l.length l := by
  obtain ⟨fuel, hf⟩ := h0
  obtain ⟨A, l, c, hcs, hl, hC⟩ := open_book Tryz.underlying22 hf
  simp [Value.cells] at hcs
  obtain ⟨rfl, rfl, rfl⟩ := hcs
  exact ⟨l, rfl, hl, hC⟩
 subst e0
 obtain ⟨a1, rfl, rfl, rfl, w1⟩ := open_int Tryz.underlying3 (hval 1 3 v1 rfl rfl) h1
 obtain ⟨a2, len2, cap2, rfl⟩ := okWide_slice Tryz.underlying23 (hval 2 23 v2 rfl rfl)
 have k2 := h2
 have lt2 : ∀ x ∈ p2, x.block < W.heap.size := by obtain ⟨m, hm⟩ := k2; exact DataW.trod_lt m _ _ _ hm
 obtain ⟨l2, e2, c2, w2⟩ : ∃ l : List ByteArray, len2 = l.length ∧ l.length ≤ cap2 ∧ Kd.C Kd.string W a2 l.length l := by
  obtain ⟨fuel, hf⟩ := h2
  obtain ⟨A, l, c, hcs, hl, hC⟩ := open_S Tryz.underlying23 hf
  simp [Value.cells] at hcs
  obtain ⟨rfl, rfl, rfl⟩ := hcs
  exact ⟨l, rfl, hl, hC⟩
 subst e2
 obtain ⟨a3, rfl, rfl, rfl, w3⟩ := open_int Tryz.underlying5 (hval 3 5 v3 rfl rfl) h3
 obtain ⟨a4, rfl, rfl, rfl, w4⟩ := open_int Tryz.underlying5 (hval 4 5 v4 rfl rfl) h4
 clear hA0 hval0
 obtain ⟨kk, hkk⟩ := ProtestModel_true l0 a1 l2 a3 a4 (wf_u8 w3) (wf_u8 w4)
 refine (besomlaw09_ProtestModel.calls kk a0 cap0 l0 a1 a2 cap2 l2 a3 a4 true W w0 c0 w2 c2 hkk).mono fun e W' ⟨he, bel⟩ => ?_
 subst he
 exact ⟨_, rfl, _, _, _, [], _, [], hW', trodAll_mk1 (shut_bool Tryz.underlying4 _), (trodAll_cons_mk (Below.trod laidOut (by kernel_rfl) (of_decide_eq_true (by kernel_rfl)) k0 bel lt0) (trodAll_cons_mk (shut_int Tryz.underlying3 w1) (trodAll_cons_mk (Below.trod laidOut (by kernel_rfl) (of_decide_eq_true (by kernel_rfl)) k2 bel lt2) (trodAll_cons_mk (shut_int Tryz.underlying5 w3) (trodAll_cons_mk (shut_int Tryz.underlying5 w4) trodAll_mk0))))), rfl, bel.frame _, fun h => by cases h⟩
theorem over : Rows.protestModelRow.holds Tryz.pinned (OpenSpec.ofChange Rows.protestModelSpec) :=
 OpenClaim.holds_of_wide 5 Tryz.f5 rfl rfl rfl rfl rfl rfl rfl ⟨rfl, rfl, rfl, rfl, rfl⟩ rfl rfl rfl rfl rfl (by kernel_rfl) Tryz.func5 (by kernel_rfl)
  (of_decide_eq_true (by kernel_rfl)) (by unfold Func.isWrapper; first | (rw [if_pos (by decide +kernel)]; kernel_rfl) | (rw [if_neg (by decide +kernel)]; exact ⟨rfl, rfl⟩))
  (fun os started H enc _ => lifted os started H enc)
theorem proved : Rows.ProtestModelSaid := over
theorem carded : Rows.ProtestModelCardSaid :=
 Claim7.holds_tied_plain_at .later [] [.data, .pinned] true (true, "98843cd4e3891271ebdf8b02a3300920f08920e848e48566e9e63e5fe3d60fc8") true proved (fun _ h => by cases h) (by kernel_rfl) (fun _ h => by cases h) protestModel_row_tie rfl ⟨rfl, rfl⟩ (by kernel_rfl) rfl
  (fun f fn hf hfn => by
   obtain rfl : f = 5 := Option.some.inj ((show Tryz.prog.funcNamed "besom/besomlaw09.ProtestModel" = some 5 by kernel_rfl).symm.trans hf) |>.symm
   obtain rfl : fn = Tryz.f5 := (Option.some.inj (Tryz.func5.symm.trans hfn)).symm
   exact ⟨by kernel_rfl, fun j t ht => by
    rw [Tryz.params5] at ht
    have hm : t ∈ [22, 3, 23, 5, 5] := by simpa using Array.mem_of_getElem? ht
    have hall : ([22, 3, 23, 5, 5].all fun u => !Tryz.prog.wantsStandIn u) = true := by kernel_rfl
    exact (show Tryz.prog.wantsStandIn t = false by simpa using List.all_eq_true.1 hall t hm)⟩)
  (by kernel_rfl)
end Go.Proofs.YtlhkeohcickiaaaGreatDoor.protestModel
namespace Go.Proofs.YtlhkeohcickiaaaGreatDoor
theorem protestModel_card : Rows.ProtestModelCardSaid := protestModel.carded
end Go.Proofs.YtlhkeohcickiaaaGreatDoor

