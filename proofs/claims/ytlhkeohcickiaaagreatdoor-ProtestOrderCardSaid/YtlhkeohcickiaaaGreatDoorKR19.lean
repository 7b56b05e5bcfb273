/- Part 19 of 31 of the proof of ProtestOrder: lemmas, without conditions. -/
import Derived.Test.YtlhkeohcickiaaaGreatDoorKR17
import Derived.Test.YtlhkeohcickiaaaGreatDoorKR18
import Derived.Test.YtlhkeohcickiaaaGreatDoorKR16
import Derived.Test.YtlhkeohcickiaaaGreatDoorProg
import Derived.WalkKit
import Derived.WideLaws
import Derived.KernelRfl
import Derived.Below
import Derived.Deep.Draws
import Derived.Test.YtlhkeohcickiaaaGreatDoorKR15
import Derived.WalkLawsBesides
import Derived.Shelf.Abstract
import Derived.Test.YtlhkeohcickiaaaGreatDoorKR1
import Derived.Maps.RangeRun
set_option linter.all false
namespace Go.Proofs.YtlhkeohcickiaaaGreatDoor.E
open Go.RowKit Go.Proofs.YtlhkeohcickiaaaGreatDoorW.PrintWords Go.Proofs.YtlhkeohcickiaaaGreatDoorW.PrintLast Go.Proofs.YtlhkeohcickiaaaGreatDoorW.PrintMore
section
def chB (b : UInt8) : Bool := (decide (97 ≤ b.toNat) && decide (b.toNat ≤ 122)) || ((decide (48 ≤ b.toNat) && decide (b.toNat ≤ 57)) || decide (b.toNat = 45))
def nameB (s : ByteArray) : Bool := decide (1 ≤ s.size) && (decide (s.size ≤ 32) && (decide (97 ≤ bt s 0) && (decide (bt s 0 ≤ 122) && s.data.toList.all chB)))
def ltB (a b : ByteArray) : Bool := Op.bytesLess a.toList b.toList
def restB : Option ByteArray → List ByteArray → Bool
 | _, [] => true
 | p, x :: xs => nameB x && ((match p with | none => true | some y => ltB y x) && restB (some x) xs)
def risingB (l : List ByteArray) (most : Int) : Bool := restB none l && decide ((l.length : Int) ≤ most)
theorem wrap64_of {x : Int} (h0 : -9223372036854775808 ≤ x) (h1 : x ≤ 9223372036854775807) : wrap64 x = x := by
 unfold wrap64; omega
def cutset : List UInt8 := [97, 98, 99, 100, 101, 102, 103, 104, 105, 106, 107, 108, 109, 110, 111, 112, 113, 114, 115, 116, 117, 118, 119, 120, 121, 122, 48, 49, 50, 51, 52, 53, 54, 55, 56, 57, 45]
theorem cutset_ch (b : UInt8) : cutset.contains b = chB b := by
 have h : ∀ n : Fin 256, cutset.contains (UInt8.ofNat n.val) = chB (UInt8.ofNat n.val) := by decide +kernel
 have := h ⟨b.toNat, b.toNat_lt⟩
 simpa using this
theorem dropWhile_nil {p : UInt8 → Bool} : ∀ l : List UInt8, (l.dropWhile p = []) ↔ l.all p = true
 | [] => by simp
 | a :: l => by
  by_cases h : p a = true
  ·simp [h, dropWhile_nil l]
  ·simp [h]
theorem dropWhile_head {p : UInt8 → Bool} {a : UInt8} {t : List UInt8} : ∀ l : List UInt8, l.dropWhile p = a :: t → p a = false
 | [], h => by simp at h
 | b :: l, h => by
  by_cases hb : p b = true
  ·rw [List.dropWhile_cons, if_pos hb] at h; exact dropWhile_head l h
  ·rw [List.dropWhile_cons, if_neg hb] at h
   injection h with h1 h2
   subst h1
   simpa using hb
theorem trim_nil (l cs : List UInt8) : ((Lib.trimS l cs) == ([] : List UInt8)) = l.all (cs.contains ·) := by
 have h1 : Lib.trimS l cs = [] ↔ l.all (cs.contains ·) = true := by
  unfold Lib.trimS Lib.trimLeftS Lib.trimRightS
  constructor
  ·intro h
   rw [dropWhile_nil] at h
   cases hd : l.reverse.dropWhile (cs.contains ·) with
   | nil =>
    rw [dropWhile_nil] at hd
    simpa using hd
   | cons a t =>
    rw [hd] at h
    have ha : (cs.contains a) = false := dropWhile_head (p := (cs.contains ·)) _ hd
    simp at h
    have := h.2
    simp at ha
    exact absurd this ha
  ·intro h
   have : l.reverse.dropWhile (cs.contains ·) = [] := by rw [dropWhile_nil]; simpa using h
   rw [this]; rfl
 by_cases h : l.all (cs.contains ·) = true
 ·rw [h, h1.2 h]; rfl
 ·have : ¬ Lib.trimS l cs = [] := fun e => h (h1.1 e)
  rw [Bool.eq_false_iff.2 h]
  cases hh : Lib.trimS l cs with
  | nil => exact absurd hh this
  | cons a t => rfl
theorem named_eq (s : ByteArray) : protest_named.f s = some (nameB s) := by
 unfold protest_named.f protest_within.f nameB
 by_cases h1 : (1 : Int) ≤ (s.size : Int)
 ·rw [if_pos h1]
  have h1' : decide (1 ≤ s.size) = true := decide_eq_true (by omega)
  rw [h1']
  simp only [Option.bind_some, Bool.true_and]
  by_cases h2 : (s.size : Int) ≤ 32
  ·have h2' : decide (s.size ≤ 32) = true := decide_eq_true (by omega)
   rw [h2', if_pos (by simpa using h2), if_pos (by omega)]
   simp only [Bool.true_and]
   by_cases h3 : bt s 0 < 97
   ·rw [if_pos h3]
    have : decide (97 ≤ bt s 0) = false := decide_eq_false (by omega)
    rw [this]; rfl
   ·have h3' : decide (97 ≤ bt s 0) = true := decide_eq_true (by omega)
    rw [if_neg h3, h3']
    by_cases h4 : bt s 0 > 122
    ·rw [if_pos h4]
     have : decide (bt s 0 ≤ 122) = false := decide_eq_false (by omega)
     rw [this]; rfl
    ·have h4' : decide (bt s 0 ≤ 122) = true := decide_eq_true (by omega)
     rw [if_neg h4, h4']
     have hf : strings_Trim.f s (⟨#[97, 98, 99, 100, 101, 102, 103, 104, 105, 106, 107, 108, 109, 110, 111, 112, 113, 114, 115, 116, 117, 118, 119, 120, 121, 122, 48, 49, 50, 51, 52, 53, 54, 55, 56, 57, 45]⟩ : ByteArray) = some ⟨(Lib.trimS s.data.toList cutset).toArray⟩ := by
      unfold strings_Trim.f
      rw [if_pos ⟨by omega, by decide, by decide⟩]
      rfl
     rw [hf]
     simp only [Option.bind_some, Bool.true_and, Option.some.injEq]
     have ht : (⟨(Lib.trimS s.data.toList cutset).toArray⟩ : ByteArray).toList = Lib.trimS s.data.toList cutset := by simp [Lib.toList_data]
     rw [ht, trim_nil]
     congr 1
     funext b
     exact cutset_ch b
  ·have h2' : decide (s.size ≤ 32) = false := decide_eq_false (by omega)
   rw [h2', if_neg (by simpa using h2)]
   rfl
 ·rw [if_neg h1]
  have : decide (1 ≤ s.size) = false := decide_eq_false (by omega)
  rw [this]
  rfl
def prevOf (l : List ByteArray) (i : Nat) : Option ByteArray := if i = 0 then none else some (l.getD (i - 1) ByteArray.empty)
theorem rdOf_nat (l : List ByteArray) (i : Nat) : rdOf ByteArray.empty l (i : Int) = l.getD i ByteArray.empty := by simp [rdOf]
theorem rising_loop (l : List ByteArray) (m : Int) (hl : l.length ≤ 9223372036854775807) : ∀ (d k i : Nat), i ≤ l.length → l.length - i = d → d < k →
  protest_rising.l0 k l m l (l.length : Int) (i : Int) = some (restB (prevOf l i) (l.drop i) && decide ((l.length : Int) ≤ m)) := by
 intro d
 induction d with
 | zero =>
  intro k i h1 h2 h3
  obtain ⟨k, rfl⟩ : ∃ m, k = m + 1 := ⟨k - 1, by omega⟩
  simp only [protest_rising.l0]
  rw [if_neg (by omega), List.drop_of_length_le (by omega)]
  rfl
 | succ d ih =>
  intro k i h1 h2 h3
  obtain ⟨k, rfl⟩ : ∃ m, k = m + 1 := ⟨k - 1, by omega⟩
  have hi : i < l.length := by omega
  have hn := ih k (i + 1) (by omega) (by omega) (by omega)
  have hw : wrap64 ((i : Int) + 1) = ((i + 1 : Nat) : Int) := by rw [wrap64_of (by omega) (by omega)]; omega
  have hg : l.getD i ByteArray.empty = l[i] := by simp [List.getD_eq_getElem?_getD, List.getElem?_eq_getElem hi]
  have hp : prevOf l (i + 1) = some l[i] := by simp only [prevOf]; rw [if_neg (by omega), Nat.add_sub_cancel, hg]
  simp only [protest_rising.l0]
  rw [if_pos (by omega), if_pos (by omega), if_pos (by omega), hw, hn, rdOf_nat, hg, named_eq, List.drop_eq_getElem_cons hi, hp]
  simp only [Option.bind_some, restB]
  by_cases hnm : nameB l[i] = true
  ·rw [if_pos hnm, hnm]
   by_cases h0 : i = 0
   ·subst h0
    rw [if_neg (by omega)]
    simp [prevOf]
   ·have hw2 : wrap64 ((i : Int) - 1) = ((i - 1 : Nat) : Int) := by rw [wrap64_of (by omega) (by omega)]; omega
    rw [if_pos (by omega), hw2, if_pos (by omega), if_pos (by omega), rdOf_nat]
    simp only [prevOf, if_neg h0, ltB, Bool.true_and]
    split
    ·rename_i hb; rw [hb]; simp only [Bool.true_and]
    ·rename_i hb; rw [Bool.eq_false_iff.2 hb]; simp only [Bool.false_and]
  ·rw [if_neg hnm]
   simp [Bool.eq_false_iff.2 hnm]
theorem rising_eq (l : List ByteArray) (m : Int) (hl : l.length ≤ 9223372036854775807) : protest_rising.f (l.length + 1) l m = some (risingB l m) := by
 have := rising_loop l m hl l.length (l.length + 1) 0 (by omega) (by omega) (by omega)
 simpa [protest_rising.f, risingB, prevOf] using this
end
end Go.Proofs.YtlhkeohcickiaaaGreatDoor.E
namespace Go.Proofs.YtlhkeohcickiaaaGreatDoor.H
open Go.RowKit
section
section
variable {κ : Type} [DecidableEq κ]
def ents (enc : κ → Value) (m : List (κ × Value)) : Array MapEntry := (m.mapIdx fun i p => { key := enc p.1, val := p.2, born := i : MapEntry }).toArray
def MapAt (enc : κ → Value) (W : World) (r : Nat) (m : List (κ × Value)) : Prop := W.heap[r]? = some (.map (ents enc m) m.length)
def mget : List (κ × Value) → κ → Option Value
 | [], _ => none
 | (y, v) :: l, x => if x = y then some v else mget l x
def mput : List (κ × Value) → κ → Value → List (κ × Value)
 | [], x, v => [(x, v)]
 | (y, u) :: l, x, v => if x = y then (y, v) :: l else (y, u) :: mput l x v
def place : List (κ × Value) → κ → Nat
 | [], _ => 0
 | (y, _) :: l, x => if x = y then 0 else place l x + 1
theorem mget_none {m : List (κ × Value)} {x : κ} (h : mget m x = none) : place m x = m.length ∧ ∀ v, mput m x v = m ++ [(x, v)] := by
 induction m with
 | nil => simp [place, mput]
 | cons p l ih =>
  obtain ⟨y, v⟩ := p
  unfold mget at h
  split at h
  ·cases h
  ·rename_i hne
   obtain ⟨h1, h2⟩ := ih h
   exact ⟨by simp [place, hne, h1], fun u => by simp [mput, hne, h2]⟩
theorem mget_some {m : List (κ × Value)} {x : κ} {v : Value} (h : mget m x = some v) : place m x < m.length ∧ m[place m x]? = some (x, v) ∧ ∀ u, mput m x u = m.set (place m x) (x, u) := by
 induction m with
 | nil => simp [mget] at h
 | cons p l ih =>
  obtain ⟨y, u⟩ := p
  unfold mget at h
  split at h
  ·rename_i e; subst e; injection h with h; subst h
   exact ⟨by simp [place], by simp [place], fun u => by simp [mput, place]⟩
  ·rename_i hne
   obtain ⟨h1, h2, h3⟩ := ih h
   exact ⟨by simp [place, hne]; omega, by simpa [place, hne] using h2, fun u => by simp [mput, place, hne, h3]⟩
theorem mput_length (m : List (κ × Value)) (x : κ) (v : Value) : (mput m x v).length = if (mget m x).isSome then m.length else m.length + 1 := by
 cases h : mget m x with
 | none => simp [(mget_none h).2 v]
 | some u => simp [(mget_some h).2.2 v]
theorem mget_mput_same (m : List (κ × Value)) (x : κ) (v : Value) : mget (mput m x v) x = some v := by
 induction m with
 | nil => simp [mput, mget]
 | cons p l ih =>
  obtain ⟨y, u⟩ := p
  by_cases h : x = y
  ·simp [mput, mget, h]
  ·simp [mput, mget, h, ih]
theorem mget_mput_other (m : List (κ × Value)) {x z : κ} (v : Value) (h : z ≠ x) : mget (mput m x v) z = mget m z := by
 induction m with
 | nil => simp [mput, mget, h]
 | cons p l ih =>
  obtain ⟨y, u⟩ := p
  by_cases hx : x = y
  ·subst hx; simp [mput, mget, h]
  ·by_cases hz : z = y
   ·simp [mput, mget, hx, hz]
   ·simp [mput, mget, hx, hz, ih]
theorem ents_size (enc : κ → Value) (m : List (κ × Value)) : (ents enc m).size = m.length := by simp [ents]
theorem ents_snoc (enc : κ → Value) (m : List (κ × Value)) (x : κ) (v : Value) : ents enc (m ++ [(x, v)]) = (ents enc m).push { key := enc x, val := v, born := m.length } := by
 simp [ents, List.mapIdx_append]
theorem ents_get (enc : κ → Value) (m : List (κ × Value)) (i : Nat) : (ents enc m)[i]? = m[i]?.map fun p => { key := enc p.1, val := p.2, born := i } := by
 simp [ents]
theorem ents_set (enc : κ → Value) (m : List (κ × Value)) (i : Nat) (x : κ) (v : Value) (f : MapEntry → MapEntry) (hf : ∀ e, (ents enc m)[i]? = some e → f e = { key := enc x, val := v, born := i }) (hi : i < m.length) : (ents enc m).modify i f = ents enc (m.set i (x, v)) := by
 apply Array.ext_getElem?
 intro j
 rw [Array.getElem?_modify, ents_get, ents_get, List.getElem?_set]
 by_cases e : i = j
 ·subst e
  simp only [if_true]
  have h1 : m[i]? = some m[i] := List.getElem?_eq_getElem hi
  have := hf _ (by rw [ents_get, h1]; rfl)
  rw [h1]
  simp only [Option.map_some, hi, if_true]
  rw [this]
 ·simp [e]
structure KeyKind (enc : κ → Value) (d : TypeDesc) : Prop where
 same : ∀ a b, Instr.sameNow d (enc a) (enc b) = some (decide (a = b))
 bits : ∀ a, Instr.sameBits 10000 (enc a) (enc a) = true
 plain : ∀ (e : Bool) (n : Nat) (t : TypeId) (P : Program) (a : κ) (w : World), P.underlying t = some d → (Instr.checkKey e (n + 1) t (enc a)).run P w = .ok () w
theorem List.set_getElem_self_of {α : Type} {l : List α} {i : Nat} {a : α} (h : l[i]? = some a) : l.set i a = l := by
 apply List.ext_getElem?
 intro j
 rw [List.getElem?_set]
 split
 ·rename_i e; subst e
  have := (List.getElem?_eq_some_iff.1 h).1
  rw [List.getElem?_eq_getElem this] at h
  simpa [this] using h.symm
 ·rfl
theorem findNow_ents {enc : κ → Value} {d : TypeDesc} (hk : KeyKind enc d) (x : κ) : ∀ (m : List (κ × Value)) (i : Nat) (es : List MapEntry), es.map (fun e => (e.key, e.val)) = m.map (fun p => (enc p.1, p.2)) →
  Instr.findNow d (enc x) es i = some ((mget m x).map fun v => (i + place m x, v)) := by
 intro m
 induction m with
 | nil => intro i es h; simp at h; subst h; simp [Instr.findNow, mget]
 | cons p l ih =>
  intro i es h
  obtain ⟨y, v⟩ := p
  cases es with
  | nil => simp at h
  | cons e es =>
   simp only [List.map_cons, List.cons.injEq, Prod.mk.injEq] at h
   obtain ⟨⟨h1, h2⟩, h3⟩ := h
   unfold Instr.findNow
   rw [h1, hk.same]
   by_cases hx : x = y
   ·simp [hx, mget, place, h2]
   ·simp only [hx, decide_false]
    rw [ih (i + 1) es h3]
    simp [mget, place, hx, Nat.add_assoc, Nat.add_comm 1]
theorem findNow_at {enc : κ → Value} {d : TypeDesc} (hk : KeyKind enc d) (x : κ) (m : List (κ × Value)) : Instr.findNow d (enc x) (ents enc m).toList 0 = some ((mget m x).map fun v => (place m x, v)) := by
 have := findNow_ents hk x m 0 (ents enc m).toList (by
  apply List.ext_getElem?
  intro j
  simp only [List.getElem?_map, Array.getElem?_toList, ents_get]
  cases m[j]? <;> rfl)
 simpa using this
variable {P : Program} {enc : κ → Value} {d : TypeDesc} {T K E : TypeId} {W : World} {r : Nat} {m : List (κ × Value)}
theorem MapAt.out {enc : κ → Value} {W : World} {r : Nat} {m : List (κ × Value)} (h : MapAt enc W r m) : W.heap[r]? = some (.map (ents enc m) m.length) := h
theorem run_lookup_at (hk : KeyKind enc d) (hT : P.underlying T = some (.map K E)) (hK : P.underlying K = some d) (h : MapAt enc W r m) {z : Value} (hz : ∀ w, (zeroValue E).run P w = .ok z w) (x : κ) :
  (Instr.lookup T (.map (some r)) (enc x) false).run P W = .ok ((mget m x).getD z) W := by
 have h1 : (getObj r).run P W = .ok (.map (ents enc m) m.length) W := by simp [getObj, Sem.run, h.out]
 have hu : ∀ w, (underlying T).run P w = .ok (.map K E) w := run_underlying hT
 have hu2 : ∀ w, (underlying K).run P w = .ok d w := run_underlying hK
 have hc := fun w => hk.plain (ents enc m).isEmpty 9999 K P x w hK
 have hf : ∀ w, (Instr.findKey K (enc x) (ents enc m).toList).run P w = .ok ((mget m x).map fun v => (place m x, v)) w := by
  intro w
  unfold Instr.findKey
  simp only [Sem.run_bind, hu2, Result.andThen, findNow_at hk]
  rfl
 unfold Instr.lookup
 simp only [Sem.run_bind, hu, Result.andThen]
 simp only [Sem.run_bind, h1, Result.andThen, Sem.run_pure, hc, hf]
 cases mget m x with
 | none => simp [hz, Result.andThen]
 | some v => simp [Result.andThen]
theorem run_lookup_ok_at (hk : KeyKind enc d) (hT : P.underlying T = some (.map K E)) (hK : P.underlying K = some d) (h : MapAt enc W r m) {z : Value} (hz : ∀ w, (zeroValue E).run P w = .ok z w) (x : κ) :
  (Instr.lookup T (.map (some r)) (enc x) true).run P W = .ok (.tuple #[(mget m x).getD z, .bool (mget m x).isSome]) W := by
 have h1 : (getObj r).run P W = .ok (.map (ents enc m) m.length) W := by simp [getObj, Sem.run, h.out]
 have hu : ∀ w, (underlying T).run P w = .ok (.map K E) w := run_underlying hT
 have hu2 : ∀ w, (underlying K).run P w = .ok d w := run_underlying hK
 have hc := fun w => hk.plain (ents enc m).isEmpty 9999 K P x w hK
 have hf : ∀ w, (Instr.findKey K (enc x) (ents enc m).toList).run P w = .ok ((mget m x).map fun v => (place m x, v)) w := by
  intro w
  unfold Instr.findKey
  simp only [Sem.run_bind, hu2, Result.andThen, findNow_at hk]
  rfl
 unfold Instr.lookup
 simp only [Sem.run_bind, hu, Result.andThen]
 simp only [Sem.run_bind, h1, Result.andThen, Sem.run_pure, hc, hf]
 cases mget m x with
 | none => simp [hz, Result.andThen]
 | some v => simp [Result.andThen]
def putMap (enc : κ → Value) (W : World) (r : Nat) (m : List (κ × Value)) : World := { W with heap := W.heap.setIfInBounds r (.map (ents enc m) m.length) }
theorem run_setMap (h : MapAt enc W r m) (m' : List (κ × Value)) : (setObj r (.map (ents enc m') m'.length)).run P W = .ok () (putMap enc W r m') := by
 simp [setObj, Sem.run, h.out, putMap]
theorem MapAt.lt (h : MapAt enc W r m) : r < W.heap.size := (Array.getElem?_eq_some_iff.1 h.out).1
theorem MapAt.put (h : MapAt enc W r m) (m' : List (κ × Value)) : MapAt enc (putMap enc W r m') r m' := by
 simp [MapAt, putMap, h.lt]
def entered (m : List (κ × Value)) (x : κ) (z : Value) : List (κ × Value) := if (mget m x).isSome then m else m ++ [(x, z)]
theorem run_mapEntry_at (hk : KeyKind enc d) (hT : P.underlying T = some (.map K E)) (hK : P.underlying K = some d) (h : MapAt enc W r m) {z : Value} (hz : ∀ w, (zeroValue E).run P w = .ok z w) (x : κ) :
  (Instr.mapEntry T (.map (some r)) (enc x)).run P W = .ok (.tuple #[(mget m x).getD z, .int .i64 (place m x : Nat)]) (putMap enc W r (entered m x z)) := by
 have h1 : (getObj r).run P W = .ok (.map (ents enc m) m.length) W := by simp [getObj, Sem.run, h.out]
 have hu : ∀ w, (underlying T).run P w = .ok (.map K E) w := run_underlying hT
 have hu2 : ∀ w, (underlying K).run P w = .ok d w := run_underlying hK
 have hc := fun w => hk.plain false 9999 K P x w hK
 have hf : ∀ w, (Instr.findKey K (enc x) (ents enc m).toList).run P w = .ok ((mget m x).map fun v => (place m x, v)) w := by
  intro w
  unfold Instr.findKey
  simp only [Sem.run_bind, hu2, Result.andThen, findNow_at hk]
  rfl
 unfold Instr.mapEntry
 simp only [Sem.run_bind, hu, Result.andThen]
 simp only [Sem.run_bind, h1, Result.andThen, Sem.run_pure, hc, hf]
 cases hl : mget m x with
 | none =>
  obtain ⟨hp, _⟩ := mget_none hl
  have he : entered m x z = m ++ [(x, z)] := by simp [entered, hl]
  have hs := run_setMap (P := P) h (m ++ [(x, z)])
  simp only [List.length_append, List.length_singleton] at hs
  rw [ents_snoc] at hs
  simp [Result.andThen, hz, he, hs, hp, goInt]
 | some v =>
  obtain ⟨h2, h3, _⟩ := mget_some hl
  have he : entered m x z = m := by simp [entered, hl]
  have hg : (ents enc m)[place m x]? = some { key := enc x, val := v, born := place m x } := by rw [ents_get, h3]; rfl
  have hst : ∀ w, (Instr.keyThatStays (enc x) (enc x)).run P w = .ok (enc x) w := fun w => by
   unfold Instr.keyThatStays; simp [hk.bits]
  have hm : (ents enc m).modify (place m x) (fun e => { e with key := enc x }) = ents enc m := by
   rw [ents_set enc m (place m x) x v _ (fun e he => by rw [hg] at he; injection he with he; subst he; rfl) h2]
   rw [List.set_getElem_self_of h3]
  have hs := run_setMap (P := P) h m
  simp [Result.andThen, he, hg, hst, hm, hs, goInt]
theorem entered_at (m : List (κ × Value)) (x : κ) (z : Value) : (entered m x z)[place m x]? = some (x, (mget m x).getD z) := by
 unfold entered
 cases hl : mget m x with
 | none => simp [(mget_none hl).1]
 | some v => simpa using (mget_some hl).2.1
theorem entered_set (m : List (κ × Value)) (x : κ) (z v : Value) : (entered m x z).set (place m x) (x, v) = mput m x v := by
 unfold entered
 cases hl : mget m x with
 | none => simp [(mget_none hl).1, (mget_none hl).2 v]
 | some u => simp [(mget_some hl).2.2 v]
theorem findIdx_ents (enc : κ → Value) (m : List (κ × Value)) (i : Nat) (hi : i < m.length) : (ents enc m).findIdx? (fun e => (e.born : Int) == (i : Int)) = some i := by
 rw [Array.findIdx?_eq_some_iff_getElem]
 refine ⟨by simpa [ents_size] using hi, ?_, ?_⟩
 ·simp [ents]
 ·intro j hj
  simp [ents]
  omega
theorem run_entryStore_at (h : MapAt enc W r m) {i : Nat} {x : κ} {u : Value} (hi : m[i]? = some (x, u)) (v : Value) :
  (Instr.entryStore T (.map (some r)) (.int .i64 (i : Nat)) v).run P W = .ok () (putMap enc W r (m.set i (x, v))) := by
 have h1 : (getObj r).run P W = .ok (.map (ents enc m) m.length) W := by simp [getObj, Sem.run, h.out]
 have hlt : i < m.length := (List.getElem?_eq_some_iff.1 hi).1
 have hg : (ents enc m)[i]? = some { key := enc x, val := u, born := i } := by rw [ents_get, hi]; rfl
 have hm : (ents enc m).modify i (fun e => { e with val := v }) = ents enc (m.set i (x, v)) :=
  ents_set enc m i x v _ (fun e he => by rw [hg] at he; injection he with he; subst he; rfl) hlt
 have hs := run_setMap (P := P) h (m.set i (x, v))
 unfold Instr.entryStore
 simp only [Sem.run_bind, h1, Result.andThen]
 have ha : ∀ w, (asInt (.int .i64 (i : Nat))).run P w = .ok (i : Int) w := fun w => by simp [asInt, asIntOf, go_sem]
 simp only [Sem.run_bind, ha, Result.andThen, findIdx_ents enc m i hlt]
 rw [hm]
 simpa using hs
theorem run_entryStore_entered {W' : World} {x₀ : κ} {z₀ : Value} (h : MapAt enc W' r (entered m x₀ z₀)) (v : Value) :
  (Instr.entryStore T (.map (some r)) (.int .i64 (place m x₀ : Nat)) v).run P W' = .ok () (putMap enc W' r (mput m x₀ v)) := by
 rw [run_entryStore_at h (entered_at m x₀ z₀) v, entered_set]
theorem run_mapUpdate_at (hk : KeyKind enc d) (hT : P.underlying T = some (.map K E)) (hK : P.underlying K = some d) (h : MapAt enc W r m) (x : κ) (v : Value) :
  (Instr.mapUpdate T (.map (some r)) (enc x) v).run P W = .ok () (putMap enc W r (mput m x v)) := by
 have h1 : (getObj r).run P W = .ok (.map (ents enc m) m.length) W := by simp [getObj, Sem.run, h.out]
 have hu : ∀ w, (underlying T).run P w = .ok (.map K E) w := run_underlying hT
 have hu2 : ∀ w, (underlying K).run P w = .ok d w := run_underlying hK
 have hc := fun w => hk.plain false 9999 K P x w hK
 have hf : ∀ w, (Instr.findKey K (enc x) (ents enc m).toList).run P w = .ok ((mget m x).map fun v => (place m x, v)) w := by
  intro w
  unfold Instr.findKey
  simp only [Sem.run_bind, hu2, Result.andThen, findNow_at hk]
  rfl
 unfold Instr.mapUpdate
 simp only [Sem.run_bind, hu, Result.andThen]
 simp only [Sem.run_bind, h1, Result.andThen, Sem.run_pure, hc, hf]
 cases hl : mget m x with
 | none =>
  have hs := run_setMap (P := P) h (m ++ [(x, v)])
  simp only [List.length_append, List.length_singleton] at hs
  rw [ents_snoc] at hs
  simp [Result.andThen, hs, (mget_none hl).2 v]
 | some u =>
  obtain ⟨h2, h3, h4⟩ := mget_some hl
  have hg : (ents enc m)[place m x]? = some { key := enc x, val := u, born := place m x } := by rw [ents_get, h3]; rfl
  have hst : ∀ w, (Instr.keyThatStays (enc x) (enc x)).run P w = .ok (enc x) w := fun w => by
   unfold Instr.keyThatStays; simp [hk.bits]
  have hm : (ents enc m).modify (place m x) (fun e => { e with key := enc x, val := v }) = ents enc (m.set (place m x) (x, v)) :=
   ents_set enc m (place m x) x v _ (fun e he => by rw [hg] at he; injection he with he; subst he; rfl) h2
  have hs := run_setMap (P := P) h (m.set (place m x) (x, v))
  simp only [List.length_set] at hs
  simp [Result.andThen, hg, hst, hm, hs, h4 v]
theorem MapAt.of_heap {W' : World} (h : MapAt enc W r m) (e : W'.heap[r]? = W.heap[r]?) : MapAt enc W' r m := by unfold MapAt; rw [e]; exact h
theorem MapAt.below {W' : World} {B : Nat} (h : MapAt enc W r m) (hb : Below B W W') (hr : r < B) : MapAt enc W' r m := h.of_heap (hb.block r hr)
theorem MapAt.alloc (h : MapAt enc W r m) (o : Obj) : MapAt enc (W.alloc o) r m := h.of_heap (Below.heap_alloc W o r h.lt)
theorem MapAt.drew (h : MapAt enc W r m) : MapAt enc W.drew r m := h
theorem MapAt.drewN (h : MapAt enc W r m) (n : Nat) : MapAt enc (W.drewN n) r m := h
theorem MapAt.setCell (h : MapAt enc W r m) {a : Addr} {v u : Value} (ha : W.cell? a = some u) : MapAt enc (W.setCell a v) r m := by
 refine h.of_heap (Below.heap_setCell W a v r ?_)
 rintro rfl
 have := h.out
 unfold World.cell? at ha
 rw [this] at ha
 cases ha
theorem putMap_heap_other {k : Nat} (m' : List (κ × Value)) (hk : k ≠ r) : (putMap enc W r m').heap[k]? = W.heap[k]? := by
 simp only [putMap, Array.getElem?_setIfInBounds]
 rw [if_neg (fun e => hk e.symm)]
theorem MapAt.put_other {κ' : Type} [DecidableEq κ'] {enc' : κ' → Value} {r' : Nat} {m₁ : List (κ' × Value)} (h : MapAt enc' W r' m₁) (hne : r' ≠ r) (m' : List (κ × Value)) : MapAt enc' (putMap enc W r m') r' m₁ :=
 h.of_heap (putMap_heap_other m' hne)
theorem size_putMap (m' : List (κ × Value)) : (putMap enc W r m').heap.size = W.heap.size := by simp [putMap]
theorem below_putMap {B : Nat} {w : World} (h : Below B w W) (hr : B ≤ r) (m' : List (κ × Value)) : Below B w (putMap enc W r m') :=
 h.trans ⟨rfl, rfl, rfl, by simp [putMap], fun k hk => putMap_heap_other m' (by omega)⟩
theorem MapAt.new (w : World) : MapAt enc (w.alloc (.map #[] 0)) w.heap.size ([] : List (κ × Value)) := by
 have : (w.alloc (.map #[] 0)).heap[w.heap.size]? = some (.map #[] 0) := by
  show (w.heap.push _)[w.heap.size]? = _
  simp
 simpa [MapAt, ents] using this
end
def encS (s : ByteArray) : Value := .string s
def encI (n : Int) : Value := .int .i64 n
theorem ba_beq (a b : ByteArray) : (a == b) = decide (a = b) := by
 obtain ⟨x⟩ := a
 obtain ⟨y⟩ := b
 by_cases h : x = y
 ·subst h
  simp only [decide_true]
  show (x == x) = true
  simp
 ·have h2 : ¬ (⟨x⟩ : ByteArray) = ⟨y⟩ := fun e => h (by injection e)
  simp only [h2, decide_false]
  show (x == y) = false
  simpa using h
instance baLawful : LawfulBEq ByteArray where
 eq_of_beq {a b} h := by rw [ba_beq] at h; simpa using h
 rfl {a} := by rw [ba_beq]; simp
theorem keyS : KeyKind encS .string := by
 refine ⟨fun a b => ?_, fun a => ?_, fun e n t P a w h => ?_⟩
 ·simp only [encS, Instr.sameNow, Option.some.injEq]
  exact ba_beq a b
 ·simp [encS, Instr.sameBits, ba_beq]
 ·unfold Instr.checkKey
  simp [Sem.run_bind, run_underlying h, Result.andThen, encS]
theorem keyI : KeyKind encI (.int .i64) := by
 refine ⟨fun a b => ?_, fun a => ?_, fun e n t P a w h => ?_⟩
 ·simp only [encI, Instr.sameNow, if_true, Option.some.injEq]
  by_cases h : a = b
  ·subst h; simp
  ·simp [h]
 ·simp [encI, Instr.sameBits]
 ·unfold Instr.checkKey
  simp [Sem.run_bind, run_underlying h, Result.andThen, encI]
end
end Go.Proofs.YtlhkeohcickiaaaGreatDoor.H
namespace Go.Proofs.YtlhkeohcickiaaaGreatDoor.E
open Go.RowKit Go.Proofs.YtlhkeohcickiaaaGreatDoor.H Go.Proofs.YtlhkeohcickiaaaGreatDoorW.PrintWords Go.Proofs.YtlhkeohcickiaaaGreatDoorW.PrintLast Go.Proofs.YtlhkeohcickiaaaGreatDoorW.PrintMore
section
def setOf (l : List ByteArray) : List (ByteArray × Value) := l.foldl (fun m s => mput m s (.bool true)) []
def has (m : List (ByteArray × Value)) (s : ByteArray) : Bool := (mget m s).isSome
theorem need_true (at_ e : Int) (w : World) : Calls Tryz.prog 42 #[.bool true, .int .i64 at_, .int .i64 e] w fun e w' => e = .returned (.tuple #[]) ∧ w = w' := by
 go_enter Tryz.func42, Tryz.ntmps42
 go_wp2
 go_end0
 exact ⟨rfl, rfl⟩
theorem need_false (at_ e : Int) (w : World) : Calls Tryz.prog 42 #[.bool false, .int .i64 at_, .int .i64 e] w fun en w' => en = .panicked [{ v := .iface 101 (.agg #[.int .i64 at_, .int .i64 e]), recovered := false }] ∧ w = w' := by
 go_enter Tryz.func42, Tryz.ntmps42
 go_wp2
 exact ⟨rfl, rfl, rfl⟩
set_option maxHeartbeats 800000 in
theorem of_calls (A : Option Addr) (c : Nat) (l : List ByteArray) (w : World) (hr : Kd.C Kd.string w A l.length l) (hc : l.length ≤ c) :
  Calls Tryz.prog 46 #[.slice A l.length c] w fun e w' => ∃ r : Nat, e = .returned (.map (some r)) ∧ H.MapAt H.encS w' r (setOf l) ∧ w.heap.size ≤ r ∧ Below w.heap.size w w' := by
 have hm63 := hr.2.1
 have hmm := @run_makeMap Tryz.prog
 go_enter Tryz.func46, Tryz.ntmps46
 go_wp2
 obtain ⟨W0, hW0⟩ : ∃ W0, W0 = w.alloc (.map #[] 0) := ⟨_, rfl⟩
 go_loopw [9] (fun i wr => ∃ k : Nat, k ≤ l.length ∧ i = .int .i64 k ∧ H.MapAt H.encS wr w.heap.size (setOf (l.take k)) ∧ Below w.heap.size w wr) (fun i _ => l.length - (intOf i).toNat)
 case atStart => exact ⟨0, Nat.zero_le _, rfl, MapAt.new w, (Below.refl _ _).alloc (Nat.le_refl _) _⟩
 case round =>
  obtain ⟨k, hk, rfl, hm, hb⟩ := hrel
  by_cases hlt : k < l.length
  ·obtain ⟨ad, rfl, hcell⟩ := Kd.at_string hr (k : Int) (by omega) (by omega)
   have hcell' : wr.cell? (ad.add k) = some (.string (rdOf ByteArray.empty l k)) := by
    have h0 : w.cell? (ad.add k) = some (.string (rdOf ByteArray.empty l k)) := by simpa using hcell
    exact pw_cell_below hb h0
   have hrd : setOf (l.take (k + 1)) = mput (setOf (l.take k)) (rdOf ByteArray.empty l k) (.bool true) := by
    have : l.take (k + 1) = l.take k ++ [rdOf ByteArray.empty l k] := by
     rw [List.take_add_one, List.getElem?_eq_getElem hlt]
     simp [rdOf, List.getD_eq_getElem?_getD, List.getElem?_eq_getElem hlt]
    rw [this]; simp [setOf]
   have hup : (Instr.mapUpdate 71 (.map (some w.heap.size)) (.string (rdOf ByteArray.empty l k)) (.bool true)).run Tryz.prog wr = .ok () (putMap H.encS wr w.heap.size (mput (setOf (l.take k)) (rdOf ByteArray.empty l k) (.bool true))) :=
    run_mapUpdate_at keyS Tryz.underlying71 Tryz.underlying9 hm _ _
   have H1 := Aside0.mk hrd
   have H2 := Aside0.mk hm
   have H3 := Aside0.mk hb
   clear hrd hm hb hcell
   go_wp2
   go_roundw
   case rel => exact ⟨k + 1, by omega, by go_num, H1.out ▸ H2.out.put _, below_putMap H3.out (Nat.le_refl _) _⟩
   case measure => simp [intOf]; omega
  ·have hk2 : k = l.length := by omega
   have H2 := Aside0.mk hm
   have H3 := Aside0.mk hb
   clear hm hb
   go_wp2
   go_ret
   exact ⟨_, rfl, by have := H2.out; rwa [hk2, List.take_length] at this, Nat.le_refl _, H3.out⟩
theorem zero4 (w : World) : (zeroValue 4).run Tryz.prog w = .ok (.bool false) w := by kernel_rfl
theorem zero3 (w : World) : (zeroValue 3).run Tryz.prog w = .ok (.int .i64 0) w := by kernel_rfl
def Pred (g : Nat) (caps : Array Value) (p : ByteArray → Bool) (w : World) : Prop := ∀ s, Calls Tryz.prog g (#[.string s] ++ caps) w fun e w' => e = .returned (.bool (p s)) ∧ w' = w
def firstAt (p : ByteArray → Bool) (l : List ByteArray) : Int := match l.findIdx? p with | some i => i | none => -1
theorem firstAt_ge (p : ByteArray → Bool) (l : List ByteArray) : decide (firstAt p l ≥ 0) = l.any p := by
 unfold firstAt
 cases h : l.findIdx? p with
 | none =>
  rw [List.findIdx?_eq_none_iff] at h
  simp only [show ¬ ((-1 : Int) ≥ 0) by omega, decide_false]
  symm
  rw [List.any_eq_false]
  intro x hx
  simp [h x hx]
 | some i =>
  simp only [show ((i : Nat) : Int) ≥ 0 by omega, decide_true]
  symm
  rw [List.any_eq_true]
  rw [List.findIdx?_eq_some_iff_getElem] at h
  obtain ⟨h1, h2, _⟩ := h
  exact ⟨l[i], List.getElem_mem h1, h2⟩
set_option maxHeartbeats 800000 in
theorem index_calls (g : Nat) (caps : Array Value) (eg : ∀ args w, (callFunc g args).run Tryz.prog w = .ok (.enter g args) w) (p : ByteArray → Bool) (A : Option Addr) (c : Nat) (l : List ByteArray) (w : World) (hr : Kd.C Kd.string w A l.length l) (hp : Pred g caps p w) :
  Calls Tryz.prog 93 #[.slice A l.length c, .func (.func g) #[] caps] w fun e w' => e = .returned (.int .i64 (firstAt p l)) ∧ w' = w := by
 have hm63 := hr.2.1
 have HP := Aside0.mk hp
 have HR := Aside0.mk hr
 clear hp hr
 go_enter Tryz.func93, Tryz.ntmps93
 go_wp2
 go_loop [8] (fun i => ∃ k : Nat, k ≤ l.length ∧ i = .int .i64 k ∧ Aside0 (∀ j, j < k → p (l.getD j ByteArray.empty) = false)) (fun i => l.length - (intOf i).toNat)
 case atStart => exact ⟨0, Nat.zero_le _, rfl, ⟨fun j hj => absurd hj (by omega)⟩⟩
 case round =>
  obtain ⟨k, hk, rfl, hno⟩ := hrel
  by_cases hlt : k < l.length
  ·obtain ⟨ad, rfl, hcell⟩ := Kd.at_string HR.out (k : Int) (by omega) (by omega)
   have hcell' : w.cell? (ad.add k) = some (.string (rdOf ByteArray.empty l k)) := by simpa using hcell
   clear hcell
   have hrd : rdOf ByteArray.empty l (k : Int) = l.getD k ByteArray.empty := by simp [rdOf]
   have hc := HP.out (rdOf ByteArray.empty l k)
   have HC := Aside0.mk hc
   have HRD := Aside0.mk hrd
   clear hc hrd
   by_cases hpk : p (rdOf ByteArray.empty l (k : Int)) = true
   ·have HPK := Aside0.mk hpk
    clear hpk
    go_wp2_with (first | ((with_reducible refine HC.out.mono ?_); rintro e w' ⟨rfl, rfl⟩; rw [HPK.out]))
    go_ret
    refine ⟨?_, rfl⟩
    have : firstAt p l = (k : Int) := by
     unfold firstAt
     have : l.findIdx? p = some k := by
      rw [List.findIdx?_eq_some_iff_getElem]
      refine ⟨hlt, ?_, fun j hj => ?_⟩
      ·have h1 := HPK.out
       rw [HRD.out, List.getD_eq_getElem?_getD, List.getElem?_eq_getElem hlt] at h1
       simpa using h1
      ·have h1 := hno.out j hj
       rw [List.getD_eq_getElem?_getD, List.getElem?_eq_getElem (by omega)] at h1
       simpa using h1
     rw [this]
    rw [this]
    rfl
   ·have hpf : p (rdOf ByteArray.empty l (k : Int)) = false := by simpa using hpk
    have HPK := Aside0.mk hpf
    clear hpk hpf
    go_wp2_with (first | ((with_reducible refine HC.out.mono ?_); rintro e w' ⟨rfl, rfl⟩; rw [HPK.out]))
    go_round
    case rel =>
     refine ⟨k + 1, by omega, by go_num, ⟨fun j hj => ?_⟩⟩
     by_cases e : j = k
     ·subst e; rw [← HRD.out]; exact HPK.out
     ·exact hno.out j (by omega)
    case measure => simp [intOf]; omega
  ·have hk2 : k = l.length := by omega
   have HK2 := Aside0.mk hk2
   clear hk2
   go_wp2
   go_ret
   refine ⟨?_, rfl⟩
   have : firstAt p l = -1 := by
    unfold firstAt
    have : l.findIdx? p = none := by
     rw [List.findIdx?_eq_none_iff]
     intro x hx
     obtain ⟨j, hj, e⟩ := List.getElem_of_mem hx
     have h1 := hno.out j (by have := HK2.out; omega)
     rw [List.getD_eq_getElem?_getD, List.getElem?_eq_getElem hj] at h1
     simpa [e] using h1
    rw [this]
   rw [this]
   rfl
theorem contains_calls (g : Nat) (caps : Array Value) (eg : ∀ args w, (callFunc g args).run Tryz.prog w = .ok (.enter g args) w) (p : ByteArray → Bool) (A : Option Addr) (c : Nat) (l : List ByteArray) (w : World) (hr : Kd.C Kd.string w A l.length l) (hp : Pred g caps p w) :
  Calls Tryz.prog 71 #[.slice A l.length c, .func (.func g) #[] caps] w fun e w' => e = .returned (.bool (l.any p)) ∧ w' = w := by
 have HI := Aside0.mk (index_calls g caps eg p A c l w hr hp)
 clear hr hp eg
 go_enter Tryz.func71, Tryz.ntmps71
 go_wp2_with (first | (go_at_call 93; (with_reducible refine HI.out.mono ?_); rintro e w' ⟨rfl, rfl⟩))
 go_ret
 refine ⟨?_, rfl⟩
 rw [← firstAt_ge]
 rfl
theorem enters72 (args : Array Value) (w : World) : (callFunc 72 args).run Tryz.prog w = .ok (.enter 72 args) w := enters_of Tryz.func72 (by kernel_rfl) rfl args w
theorem enters114 (args : Array Value) (w : World) : (callFunc 114 args).run Tryz.prog w = .ok (.enter 114 args) w := enters_of Tryz.func114 (by kernel_rfl) rfl args w
theorem any1_pred (m : List (ByteArray × Value)) (hb : ∀ p ∈ m, p.2 = .bool true) (r : Nat) (a : Addr) (w : World) (hm : H.MapAt H.encS w r m) (ha : w.cell? a = some (.map (some r))) : Pred 72 #[.pointer (some a)] (has m) w := by
 intro s
 have hl : (Instr.lookup 71 (.map (some r)) (.string s) false).run Tryz.prog w = .ok ((mget m s).getD (.bool false)) w := run_lookup_at keyS Tryz.underlying71 Tryz.underlying9 hm zero4 s
 have hv : (mget m s).getD (.bool false) = .bool (has m s) := by
  unfold has
  cases h : mget m s with
  | none => rfl
  | some v =>
   have := (mget_some h).2.1
   have h2 := hb _ (List.mem_of_getElem? this)
   simpa using h2
 rw [hv] at hl
 clear hv
 show Calls Tryz.prog 72 #[.string s, .pointer (some a)] w _
 clear hm hb
 go_enter Tryz.func72, Tryz.ntmps72
 go_wp2
 go_ret
 exact ⟨rfl, rfl⟩
theorem all1_pred (m : List (ByteArray × Value)) (hb : ∀ p ∈ m, p.2 = .bool true) (r : Nat) (a : Addr) (w : World) (hm : H.MapAt H.encS w r m) (ha : w.cell? a = some (.map (some r))) : Pred 114 #[.pointer (some a)] (fun s => !has m s) w := by
 intro s
 have hl : (Instr.lookup 71 (.map (some r)) (.string s) false).run Tryz.prog w = .ok ((mget m s).getD (.bool false)) w := run_lookup_at keyS Tryz.underlying71 Tryz.underlying9 hm zero4 s
 have hv : (mget m s).getD (.bool false) = .bool (has m s) := by
  unfold has
  cases h : mget m s with
  | none => rfl
  | some v =>
   have := (mget_some h).2.1
   have h2 := hb _ (List.mem_of_getElem? this)
   simpa using h2
 rw [hv] at hl
 clear hv
 show Calls Tryz.prog 114 #[.string s, .pointer (some a)] w _
 clear hm hb
 go_enter Tryz.func114, Tryz.ntmps114
 go_wp2
 go_ret
 exact ⟨rfl, rfl⟩
theorem any_calls (m : List (ByteArray × Value)) (hb : ∀ p ∈ m, p.2 = .bool true) (r : Nat) (A : Option Addr) (c : Nat) (l : List ByteArray) (w : World) (hm : H.MapAt H.encS w r m) (hr : Kd.C Kd.string w A l.length l) :
  Calls Tryz.prog 47 #[.map (some r), .slice A l.length c] w fun e w' => e = .returned (.bool (l.any (has m))) ∧ Below w.heap.size w w' := by
 have hP := any1_pred m hb r ⟨w.heap.size, 0, none⟩ (w.alloc (.cells #[.map (some r)] 71)) (hm.alloc _) (by simp)
 have HC := Aside0.mk (contains_calls 72 _ enters72 (has m) A c l _ (Kd.C_below hr ((Below.refl _ w).alloc (Nat.le_refl _) _)) hP)
 have hmf : ∀ (fn : Fn) (first cap : Array Value) (w : World), (Instr.makeFunc fn first cap).run Tryz.prog w = .ok (.func fn first cap) w := fun _ _ _ _ => rfl
 clear hP hm hr hb
 go_enter Tryz.func47, Tryz.ntmps47
 go_wp2_with (first | (go_at_call 71; (with_reducible refine HC.out.mono ?_); rintro e w' ⟨rfl, rfl⟩))
 go_ret
 exact ⟨rfl, (Below.refl _ w).alloc (Nat.le_refl _) _⟩
theorem any_all (p : ByteArray → Bool) (l : List ByteArray) : (!(l.any fun s => !p s)) = l.all p := by
 induction l with
 | nil => rfl
 | cons a l ih => simp only [List.any_cons, List.all_cons, Bool.not_or, Bool.not_not, ih]
theorem all_calls (m : List (ByteArray × Value)) (hb : ∀ p ∈ m, p.2 = .bool true) (r : Nat) (A : Option Addr) (c : Nat) (l : List ByteArray) (w : World) (hm : H.MapAt H.encS w r m) (hr : Kd.C Kd.string w A l.length l) :
  Calls Tryz.prog 106 #[.map (some r), .slice A l.length c] w fun e w' => e = .returned (.bool (l.all (has m))) ∧ Below w.heap.size w w' := by
 have hP := all1_pred m hb r ⟨w.heap.size, 0, none⟩ (w.alloc (.cells #[.map (some r)] 71)) (hm.alloc _) (by simp)
 have HC := Aside0.mk (contains_calls 114 _ enters114 (fun s => !has m s) A c l _ (Kd.C_below hr ((Below.refl _ w).alloc (Nat.le_refl _) _)) hP)
 have hmf : ∀ (fn : Fn) (first cap : Array Value) (w : World), (Instr.makeFunc fn first cap).run Tryz.prog w = .ok (.func fn first cap) w := fun _ _ _ _ => rfl
 have hE := any_all (has m) l
 have HE := Aside0.mk hE
 clear hP hm hr hb hE
 go_enter Tryz.func106, Tryz.ntmps106
 go_wp2_with (first | (go_at_call 71; (with_reducible refine HC.out.mono ?_); rintro e w' ⟨rfl, rfl⟩))
 go_ret
 refine ⟨?_, (Below.refl _ w).alloc (Nat.le_refl _) _⟩
 rw [← HE.out]
 rfl
end
section
theorem mem_mput (m : List (ByteArray × Value)) (x : ByteArray) (v : Value) (h : ∀ p ∈ m, p.2 = v) : ∀ p ∈ mput m x v, p.2 = v := by
 induction m with
 | nil => simp [mput]
 | cons q l ih =>
  obtain ⟨y, u⟩ := q
  intro p hp
  unfold mput at hp
  split at hp
  ·rcases List.mem_cons.1 hp with rfl | hp
   ·rfl
   ·exact h p (by simp [hp])
  ·rcases List.mem_cons.1 hp with rfl | hp
   ·exact h (y, u) (by simp)
   ·exact ih (fun q hq => h q (by simp [hq])) p hp
theorem setOf_true (l : List ByteArray) : ∀ p ∈ setOf l, p.2 = .bool true := by
 unfold setOf
 have : ∀ (l : List ByteArray) (m : List (ByteArray × Value)), (∀ p ∈ m, p.2 = .bool true) → ∀ p ∈ l.foldl (fun m s => mput m s (.bool true)) m, p.2 = .bool true := by
  intro l
  induction l with
  | nil => intro m h; exact h
  | cons a l ih => intro m h; exact ih _ (mem_mput m a _ h)
 exact this l [] (by simp)
theorem has_mput (m : List (ByteArray × Value)) (x s : ByteArray) (v : Value) : has (mput m x v) s = (decide (s = x) || has m s) := by
 unfold has
 by_cases h : s = x
 ·subst h; simp [mget_mput_same]
 ·simp [mget_mput_other m v h, h]
theorem has_setOf (l : List ByteArray) (s : ByteArray) : has (setOf l) s = decide (s ∈ l) := by
 unfold setOf
 have : ∀ (l : List ByteArray) (m : List (ByteArray × Value)), has (l.foldl (fun m s => mput m s (.bool true)) m) s = (decide (s ∈ l) || has m s) := by
  intro l
  induction l with
  | nil => intro m; simp
  | cons a l ih =>
   intro m
   rw [List.foldl_cons, ih, has_mput]
   by_cases h1 : s = a <;> by_cases h2 : s ∈ l <;> simp [h1, h2]
 rw [this]
 simp [has, mget]
def disjB (l m : List ByteArray) : Bool := !(m.any fun s => decide (s ∈ l))
def okB (name : ByteArray) (lo hi : Int) (ifs unl : List ByteArray) (thn : ByteArray) : Bool :=
 (risingB ifs 8 && (risingB unl 8 && disjB ifs unl)) && (nameB name && (nameB thn && ((decide (0 ≤ lo) && decide (lo ≤ hi)) && decide (hi ≤ 1000))))
def protest_CheckClause.f (a0_0 : ByteArray) (a0_1 a0_2 : Int) (l0_3 l0_4 : List ByteArray) (a0_5 : ByteArray) : Option Bool :=
 some (okB a0_0 a0_1 a0_2 l0_3 l0_4 a0_5)
theorem rising_any (A : Option Addr) (c : Nat) (l : List ByteArray) (m : Int) (w : World) (hl : l.length ≤ 9223372036854775807) (hr : Kd.C Kd.string w A l.length l) (hc : l.length ≤ c) :
  Calls Tryz.prog 45 #[.slice A l.length c, .int .i64 m] w fun e w' => e = .returned (.bool (risingB l m)) ∧ Below w.heap.size w w' :=
 protest_rising.calls (l.length + 1) A c l m _ w hr hc (rising_eq l m hl)
theorem named_any (s : ByteArray) (w : World) : Calls Tryz.prog 43 #[.string s] w fun e w' => e = .returned (.bool (nameB s)) ∧ Below w.heap.size w w' :=
 protest_named.calls s _ w (named_eq s)
theorem within_any (a b c : Int) (w : World) : Calls Tryz.prog 48 #[.int .i64 a, .int .i64 b, .int .i64 c] w fun e w' => e = .returned (.bool (decide (b ≤ a) && decide (a ≤ c))) ∧ Below w.heap.size w w' :=
 (protest_within.calls a b c _ w (by unfold protest_within.f; by_cases h : b ≤ a <;> simp [h])).mono fun e w' ⟨he, hd⟩ => ⟨he, hd.below⟩
def Kept25 (w : World) (v : Array Value) (W : World) : Prop := W.heap[w.heap.size]? = some (.cells v 25 (0, 0)) ∧ Below w.heap.size w W
theorem Kept25.mk' (w : World) (v : Array Value) : Kept25 w v (w.alloc (.cells v 25)) := ⟨by show (w.heap.push _)[w.heap.size]? = _; simp, (Below.refl _ _).alloc (Nat.le_refl _) _⟩
theorem Kept25.lt {w : World} {v : Array Value} {W : World} (h : Kept25 w v W) : w.heap.size < W.heap.size := (Array.getElem?_eq_some_iff.1 h.1).1
theorem Kept25.below {w : World} {v : Array Value} {W W' : World} (h : Kept25 w v W) (hb : Below W.heap.size W W') : Kept25 w v W' :=
 ⟨(hb.block _ h.lt).trans h.1, h.2.trans (hb.mono (Nat.le_of_lt h.lt))⟩
theorem Kept25.drew {w : World} {v : Array Value} {W : World} (h : Kept25 w v W) : Kept25 w v W.drew := ⟨h.1, h.2.drew⟩
theorem Kept25.drewN {w : World} {v : Array Value} {W : World} (h : Kept25 w v W) (n : Nat) : Kept25 w v (W.drewN n) := ⟨h.1, pw_below_drewN h.2 n⟩
theorem Kept25.cell {w : World} {v : Array Value} {W : World} (h : Kept25 w v W) (j : Nat) : W.cell? ⟨w.heap.size, j, none⟩ = v[j]? := by
 unfold World.cell?
 rw [h.1]
 rfl
theorem k25_all {w : World} {a0 : ByteArray} {a1 a2 : Int} {v3 v4 : Value} {a5 : ByteArray} {W : World} (h : Kept25 w #[.string a0, .int .i64 a1, .int .i64 a2, v3, v4, .string a5] W) :
  Kept25 w #[.string a0, .int .i64 a1, .int .i64 a2, v3, v4, .string a5] W ∧ W.cell? ⟨w.heap.size, 3, none⟩ = some v3 ∧ W.cell? ⟨w.heap.size, 4, none⟩ = some v4 := ⟨h, h.cell 3, h.cell 4⟩
attribute [local go_sem] SteadyRes_value SteadyRes_skip SteadyRes_enter
set_option maxHeartbeats 400000 in
theorem protest_CheckClause.calls (a0_0 : ByteArray) (a0_1 : Int) (a0_2 : Int) (A0_3 : Option Addr) (c0_3 : Nat) (l0_3 : List ByteArray) (A0_4 : Option Addr) (c0_4 : Nat) (l0_4 : List ByteArray) (a0_5 : ByteArray) (r : Bool) (w : World)
  (hr0_3 : Kd.C Kd.string w A0_3 l0_3.length l0_3) (hc0_3 : l0_3.length ≤ c0_3) (hr0_4 : Kd.C Kd.string w A0_4 l0_4.length l0_4) (hc0_4 : l0_4.length ≤ c0_4) (h : protest_CheckClause.f a0_0 a0_1 a0_2 l0_3 l0_4 a0_5 = some r) :
  Calls Tryz.prog 16 #[.agg #[.string a0_0, .int .i64 a0_1, .int .i64 a0_2, .slice A0_3 l0_3.length c0_3, .slice A0_4 l0_4.length c0_4, .string a0_5]] w fun e w' => e = .returned (.bool r) ∧ Below w.heap.size w w' := by
 unfold protest_CheckClause.f at h
 have hlen : l0_3.length ≤ 9223372036854775807 ∧ l0_4.length ≤ 9223372036854775807 := ⟨hr0_3.2.1, hr0_4.2.1⟩
 injection h with h
 obtain ⟨v, hv⟩ : ∃ v : Array Value, v = #[.string a0_0, .int .i64 a0_1, .int .i64 a0_2, .slice A0_3 l0_3.length c0_3, .slice A0_4 l0_4.length c0_4, .string a0_5] := ⟨_, rfl⟩
 have h45a : ∀ W, Kept25 w v W → Calls Tryz.prog 45 #[.slice A0_3 l0_3.length c0_3, .int .i64 8] W fun e W' => e = .returned (.bool (risingB l0_3 8)) ∧ Below W.heap.size W W' := fun W hW => rising_any _ _ _ _ _ hlen.1 (Kd.C_below hr0_3 hW.2) hc0_3
 have h45b : ∀ W, Kept25 w v W → Calls Tryz.prog 45 #[.slice A0_4 l0_4.length c0_4, .int .i64 8] W fun e W' => e = .returned (.bool (risingB l0_4 8)) ∧ Below W.heap.size W W' := fun W hW => rising_any _ _ _ _ _ hlen.2 (Kd.C_below hr0_4 hW.2) hc0_4
 have h46 : ∀ W, Kept25 w v W → Calls Tryz.prog 46 #[.slice A0_3 l0_3.length c0_3] W fun e W' => ∃ r : Nat, e = .returned (.map (some r)) ∧ H.MapAt H.encS W' r (setOf l0_3) ∧ W.heap.size ≤ r ∧ Below W.heap.size W W' := fun W hW => of_calls _ _ _ _ (Kd.C_below hr0_3 hW.2) hc0_3
 have h47 : ∀ W r, Kept25 w v W → H.MapAt H.encS W r (setOf l0_3) → Calls Tryz.prog 47 #[.map (some r), .slice A0_4 l0_4.length c0_4] W fun e W' => e = .returned (.bool (l0_4.any (has (setOf l0_3)))) ∧ Below W.heap.size W W' := fun W r hW hm => any_calls _ (setOf_true _) r _ _ _ _ hm (Kd.C_below hr0_4 hW.2)
 have K0 := Kept25.mk' w v
 have H45a := Aside0.mk h45a
 have H45b := Aside0.mk h45b
 have H46 := Aside0.mk h46
 have H47 := Aside0.mk h47
 have HV := Aside0.mk hv
 have HR := Aside0.mk h
 clear h45a h45b h46 h47 h hr0_3 hr0_4 hlen
 subst hv
 have HK0 := Aside0.mk K0
 clear K0
 have hneed : okB a0_0 a0_1 a0_2 l0_3 l0_4 a0_5 = r := HR.out
 have HR2 := Aside0.mk hneed
 clear hneed HR HV
 have hfin : r = false ∨ (risingB l0_3 8 = true ∧ risingB l0_4 8 = true) := by
  have h := HR2.out
  unfold okB at h
  cases h1 : risingB l0_3 8 <;> cases h2 : risingB l0_4 8 <;> simp_all
 cases hb1 : risingB l0_3 8 with
 | false =>
  obtain rfl : r = false := by rcases hfin with h | h <;> simp_all
  have HB1 := Aside0.mk hb1
  clear hb1 hfin HR2
  go_enter Tryz.func16, Tryz.ntmps16
  go_wp2
  refine wp_region_steady (by kernel_rfl) (Kept25 w (#[.string a0_0, .int .i64 a0_1, .int .i64 a0_2, .slice A0_3 l0_3.length c0_3, .slice A0_4 l0_4.length c0_4, .string a0_5] : Array Value)) HK0.out.drew (by decide +kernel) ?_
  apply Chain.val
  ·rfl
  ·intro W hW
   have hw3 := (k25_all hW).2.1
   have hw4 := (k25_all hW).2.2
   go_simp
   first | exact rfl | exact ⟨rfl, hW⟩
  simp only [Act.put, List.setIfInBounds_toArray, List.set_cons_succ, List.set_cons_zero]
  apply Chain.val
  ·rfl
  ·intro W hW
   have hw3 := (k25_all hW).2.1
   have hw4 := (k25_all hW).2.2
   go_simp
   first | exact rfl | exact ⟨rfl, hW⟩
  simp only [Act.put, List.setIfInBounds_toArray, List.set_cons_succ, List.set_cons_zero]
  apply Chain.val
  ·rfl
  ·intro W hW
   have hw3 := (k25_all hW).2.1
   have hw4 := (k25_all hW).2.2
   go_simp
   exact (H45a.out W hW).mono fun e w' ⟨he, hb⟩ => ⟨he.trans (by rw [HB1.out]), hW.below hb⟩
  simp only [Act.put, List.setIfInBounds_toArray, List.set_cons_succ, List.set_cons_zero]
  apply Chain.val
  ·rfl
  ·intro W hW
   have hw3 := (k25_all hW).2.1
   have hw4 := (k25_all hW).2.2
   go_simp
   first | exact rfl | exact ⟨rfl, hW⟩
  simp only [Act.put, List.setIfInBounds_toArray, List.set_cons_succ, List.set_cons_zero]
  refine Chain.skip (by rfl) ?_
  simp only [Act.put, List.setIfInBounds_toArray, List.set_cons_succ, List.set_cons_zero]
  refine Chain.skip (by rfl) ?_
  simp only [Act.put, List.setIfInBounds_toArray, List.set_cons_succ, List.set_cons_zero]
  refine Chain.skip (by rfl) ?_
  simp only [Act.put, List.setIfInBounds_toArray, List.set_cons_succ, List.set_cons_zero]
  apply Chain.val
  ·rfl
  ·intro W hW
   have hw3 := (k25_all hW).2.1
   have hw4 := (k25_all hW).2.2
   go_simp
   first | exact rfl | exact ⟨rfl, hW⟩
  simp only [Act.put, List.setIfInBounds_toArray, List.set_cons_succ, List.set_cons_zero]
  apply Chain.val
  ·rfl
  ·intro W hW
   have hw3 := (k25_all hW).2.1
   have hw4 := (k25_all hW).2.2
   go_simp
   first | exact rfl | exact ⟨rfl, hW⟩
  simp only [Act.put, List.setIfInBounds_toArray, List.set_cons_succ, List.set_cons_zero]
  refine Chain.skip (by rfl) ?_
  simp only [Act.put, List.setIfInBounds_toArray, List.set_cons_succ, List.set_cons_zero]
  refine Chain.skip (by rfl) ?_
  simp only [Act.put, List.setIfInBounds_toArray, List.set_cons_succ, List.set_cons_zero]
  refine Chain.skip (by rfl) ?_
  simp only [Act.put, List.setIfInBounds_toArray, List.set_cons_succ, List.set_cons_zero]
  refine Chain.skip (by rfl) ?_
  simp only [Act.put, List.setIfInBounds_toArray, List.set_cons_succ, List.set_cons_zero]
  refine Chain.skip (by rfl) ?_
  simp only [Act.put, List.setIfInBounds_toArray, List.set_cons_succ, List.set_cons_zero]
  refine Chain.skip (by rfl) ?_
  simp only [Act.put, List.setIfInBounds_toArray, List.set_cons_succ, List.set_cons_zero]
  refine Chain.skip (by rfl) ?_
  simp only [Act.put, List.setIfInBounds_toArray, List.set_cons_succ, List.set_cons_zero]
  apply Chain.val
  ·rfl
  ·intro W hW
   have hw3 := (k25_all hW).2.1
   have hw4 := (k25_all hW).2.2
   go_simp
   first | exact rfl | exact ⟨rfl, hW⟩
  simp only [Act.put, List.setIfInBounds_toArray, List.set_cons_succ, List.set_cons_zero]
  apply Chain.val
  ·rfl
  ·intro W hW
   have hw3 := (k25_all hW).2.1
   have hw4 := (k25_all hW).2.2
   go_simp
   first | exact rfl | exact ⟨rfl, hW⟩
  simp only [Act.put, List.setIfInBounds_toArray, List.set_cons_succ, List.set_cons_zero]
  refine Chain.nil ?_
  intro W hW
  have HW := Aside0.mk hW
  clear hW
  go_wp2
  go_ret
  exact ⟨rfl, HW.out.2⟩
 | true =>
  cases hb2 : risingB l0_4 8 with
  | false =>
   obtain rfl : r = false := by rcases hfin with h | h <;> simp_all
   have HB1 := Aside0.mk hb1
   have HB2 := Aside0.mk hb2
   clear hb1 hb2 hfin HR2
   go_enter Tryz.func16, Tryz.ntmps16
   go_wp2
   refine wp_region_steady (by kernel_rfl) (Kept25 w (#[.string a0_0, .int .i64 a0_1, .int .i64 a0_2, .slice A0_3 l0_3.length c0_3, .slice A0_4 l0_4.length c0_4, .string a0_5] : Array Value)) HK0.out.drew (by decide +kernel) ?_
   apply Chain.val
   ·rfl
   ·intro W hW
    have hw3 := (k25_all hW).2.1
    have hw4 := (k25_all hW).2.2
    go_simp
    first | exact rfl | exact ⟨rfl, hW⟩
   simp only [Act.put, List.setIfInBounds_toArray, List.set_cons_succ, List.set_cons_zero]
   apply Chain.val
   ·rfl
   ·intro W hW
    have hw3 := (k25_all hW).2.1
    have hw4 := (k25_all hW).2.2
    go_simp
    first | exact rfl | exact ⟨rfl, hW⟩
   simp only [Act.put, List.setIfInBounds_toArray, List.set_cons_succ, List.set_cons_zero]
   apply Chain.val
   ·rfl
   ·intro W hW
    have hw3 := (k25_all hW).2.1
    have hw4 := (k25_all hW).2.2
    go_simp
    exact (H45a.out W hW).mono fun e w' ⟨he, hb⟩ => ⟨he.trans (by rw [HB1.out]), hW.below hb⟩
   simp only [Act.put, List.setIfInBounds_toArray, List.set_cons_succ, List.set_cons_zero]
   apply Chain.val
   ·rfl
   ·intro W hW
    have hw3 := (k25_all hW).2.1
    have hw4 := (k25_all hW).2.2
    go_simp
    first | exact rfl | exact ⟨rfl, hW⟩
   simp only [Act.put, List.setIfInBounds_toArray, List.set_cons_succ, List.set_cons_zero]
   apply Chain.val
   ·rfl
   ·intro W hW
    have hw3 := (k25_all hW).2.1
    have hw4 := (k25_all hW).2.2
    go_simp
    first | exact rfl | exact ⟨rfl, hW⟩
   simp only [Act.put, List.setIfInBounds_toArray, List.set_cons_succ, List.set_cons_zero]
   apply Chain.val
   ·rfl
   ·intro W hW
    have hw3 := (k25_all hW).2.1
    have hw4 := (k25_all hW).2.2
    go_simp
    first | exact rfl | exact ⟨rfl, hW⟩
   simp only [Act.put, List.setIfInBounds_toArray, List.set_cons_succ, List.set_cons_zero]
   apply Chain.val
   ·rfl
   ·intro W hW
    have hw3 := (k25_all hW).2.1
    have hw4 := (k25_all hW).2.2
    go_simp
    exact (H45b.out W hW).mono fun e w' ⟨he, hb⟩ => ⟨he.trans (by rw [HB2.out]), hW.below hb⟩
   simp only [Act.put, List.setIfInBounds_toArray, List.set_cons_succ, List.set_cons_zero]
   apply Chain.val
   ·rfl
   ·intro W hW
    have hw3 := (k25_all hW).2.1
    have hw4 := (k25_all hW).2.2
    go_simp
    first | exact rfl | exact ⟨rfl, hW⟩
   simp only [Act.put, List.setIfInBounds_toArray, List.set_cons_succ, List.set_cons_zero]
   apply Chain.val
   ·rfl
   ·intro W hW
    have hw3 := (k25_all hW).2.1
    have hw4 := (k25_all hW).2.2
    go_simp
    first | exact rfl | exact ⟨rfl, hW⟩
   simp only [Act.put, List.setIfInBounds_toArray, List.set_cons_succ, List.set_cons_zero]
   refine Chain.skip (by rfl) ?_
   simp only [Act.put, List.setIfInBounds_toArray, List.set_cons_succ, List.set_cons_zero]
   refine Chain.skip (by rfl) ?_
   simp only [Act.put, List.setIfInBounds_toArray, List.set_cons_succ, List.set_cons_zero]
   refine Chain.skip (by rfl) ?_
   simp only [Act.put, List.setIfInBounds_toArray, List.set_cons_succ, List.set_cons_zero]
   refine Chain.skip (by rfl) ?_
   simp only [Act.put, List.setIfInBounds_toArray, List.set_cons_succ, List.set_cons_zero]
   refine Chain.skip (by rfl) ?_
   simp only [Act.put, List.setIfInBounds_toArray, List.set_cons_succ, List.set_cons_zero]
   refine Chain.skip (by rfl) ?_
   simp only [Act.put, List.setIfInBounds_toArray, List.set_cons_succ, List.set_cons_zero]
   refine Chain.skip (by rfl) ?_
   simp only [Act.put, List.setIfInBounds_toArray, List.set_cons_succ, List.set_cons_zero]
   apply Chain.val
   ·rfl
   ·intro W hW
    have hw3 := (k25_all hW).2.1
    have hw4 := (k25_all hW).2.2
    go_simp
    first | exact rfl | exact ⟨rfl, hW⟩
   simp only [Act.put, List.setIfInBounds_toArray, List.set_cons_succ, List.set_cons_zero]
   apply Chain.val
   ·rfl
   ·intro W hW
    have hw3 := (k25_all hW).2.1
    have hw4 := (k25_all hW).2.2
    go_simp
    first | exact rfl | exact ⟨rfl, hW⟩
   simp only [Act.put, List.setIfInBounds_toArray, List.set_cons_succ, List.set_cons_zero]
   refine Chain.nil ?_
   intro W hW
   have HW := Aside0.mk hW
   clear hW
   go_wp2
   go_ret
   exact ⟨rfl, HW.out.2⟩
  | true =>
   have hokr : ((!(l0_4.any (has (setOf l0_3)))) && (nameB a0_0 && (nameB a0_5 && ((decide (0 ≤ a0_1) && decide (a0_1 ≤ a0_2)) && decide (a0_2 ≤ 1000))))) = r := by
    have h := HR2.out
    unfold okB disjB at h
    rw [hb1, hb2] at h
    have e : (l0_4.any fun s => decide (s ∈ l0_3)) = l0_4.any (has (setOf l0_3)) := by congr 1; funext s; exact (has_setOf l0_3 s).symm
    rw [e] at h
    rw [← h]
    rfl
   have HB1 := Aside0.mk hb1
   have HB2 := Aside0.mk hb2
   have HOK := Aside0.mk hokr
   clear hb1 hb2 hfin HR2 hokr
   obtain ⟨d, hd⟩ : ∃ d, d = l0_4.any (has (setOf l0_3)) := ⟨_, rfl⟩
   have HD := Aside0.mk hd
   clear hd
   go_enter Tryz.func16, Tryz.ntmps16
   go_wp2
   go_region_held3 (fun W => Kept25 w (#[.string a0_0, .int .i64 a0_1, .int .i64 a0_2, .slice A0_3 l0_3.length c0_3, .slice A0_4 l0_4.length c0_4, .string a0_5] : Array Value) W ∧ W.cell? ⟨w.heap.size, 3, none⟩ = some (.slice A0_3 l0_3.length c0_3) ∧ W.cell? ⟨w.heap.size, 4, none⟩ = some (.slice A0_4 l0_4.length c0_4))
    (first | exact k25_all HK0.out.drew | exact k25_all (Kept25.below (And.left (by assumption)) hb))
    (first
     | (go_at_call 45; (with_reducible refine (H45a.out _ ?_).mono ?_); (first | exact HK0.out.drew | exact (And.left (by assumption))); rintro e w' ⟨rfl, hb⟩; rw [HB1.out])
     | (go_at_call 45; (with_reducible refine (H45b.out _ ?_).mono ?_); (first | exact HK0.out.drew | exact (And.left (by assumption))); rintro e w' ⟨rfl, hb⟩; rw [HB2.out])
     | (go_at_call 46; (with_reducible refine (H46.out _ ?_).mono ?_); (first | exact HK0.out.drew | exact (And.left (by assumption))); rintro e w' ⟨mr, rfl, hm, hmr, hb⟩)
     | (go_at_call 47; (with_reducible refine (H47.out _ _ ?_ ?_).mono ?_); (first | exact HK0.out.drew | exact (And.left (by assumption))); assumption; rintro e w' ⟨rfl, hb⟩; rw [← HD.out]))
   all_goals
    have hk := And.left (by assumption : Kept25 w _ _ ∧ _)
    have HK := Aside0.mk hk
    have f0 := hk.cell 0
    have f1 := hk.cell 1
    have f2 := hk.cell 2
    have f5 := hk.cell 5
    clear hk
    simp only [List.getElem?_toArray, List.getElem?_cons_zero, List.getElem?_cons_succ] at f0 f1 f2 f5
    cases d with
    | true =>
     obtain rfl : false = r := by simpa [← HD.out] using HOK.out
     go_wp2
     go_ret
     exact ⟨rfl, HK.out.2⟩
    | false =>
     cases hn0 : nameB a0_0 with
     | false =>
      obtain rfl : false = r := by simpa [hn0] using HOK.out
      have HN0 := Aside0.mk hn0
      clear hn0
      go_wp2_with (first | (go_at_call 43; (with_reducible refine (named_any a0_0 _).mono ?_); rintro e w2 ⟨rfl, hb2⟩; rw [HN0.out]))
      go_ret
      exact ⟨rfl, (HK.out.below hb2).2⟩
     | true =>
      have HN0 := Aside0.mk hn0
      clear hn0
      go_wp2_with fail
      (with_reducible refine (named_any a0_0 _).mono ?_)
      rintro e w2 ⟨rfl, hb2⟩
      rw [HN0.out]
      have HK2 := Aside0.mk (HK.out.below hb2)
      have g1 := HK2.out.cell 1
      have g2 := HK2.out.cell 2
      have g5 := HK2.out.cell 5
      simp only [List.getElem?_toArray, List.getElem?_cons_zero, List.getElem?_cons_succ] at g1 g2 g5
      cases hn5 : nameB a0_5 with
      | false =>
       obtain rfl : false = r := by simpa [hn5] using HOK.out
       have HN5 := Aside0.mk hn5
       clear hn5
       go_wp2_with (first | (go_at_call 43; (with_reducible refine (named_any a0_5 _).mono ?_); rintro e w3 ⟨rfl, hb3⟩; rw [HN5.out]))
       go_ret
       exact ⟨rfl, (HK2.out.below hb3).2⟩
      | true =>
       have HN5 := Aside0.mk hn5
       clear hn5
       go_wp2_with fail
       (with_reducible refine (named_any a0_5 _).mono ?_)
       rintro e w3 ⟨rfl, hb3⟩
       rw [HN5.out]
       have HK3 := Aside0.mk (HK2.out.below hb3)
       have k1 := HK3.out.cell 1
       have k2 := HK3.out.cell 2
       simp only [List.getElem?_toArray, List.getElem?_cons_zero, List.getElem?_cons_succ] at k1 k2
       cases hn1 : (decide (0 ≤ a0_1) && decide (a0_1 ≤ a0_2)) with
       | false =>
        obtain rfl : false = r := by simpa [hn1] using HOK.out
        have HN1 := Aside0.mk hn1
        clear hn1
        go_wp2_with (first | (go_at_call 48; (with_reducible refine (within_any a0_1 0 a0_2 _).mono ?_); rintro e w4 ⟨rfl, hb4⟩; rw [HN1.out]))
        go_ret
        exact ⟨rfl, (HK3.out.below hb4).2⟩
       | true =>
        have hle : decide (a0_2 ≤ 1000) = r := by
         have h := HOK.out
         rw [HN0.out, HN5.out, hn1] at h
         rw [← h]
         have e := HD.out
         rw [← e]
         simp
        have HN1 := Aside0.mk hn1
        have HLE := Aside0.mk hle
        clear hn1 hle
        go_wp2_with fail
        (with_reducible refine (within_any a0_1 0 a0_2 _).mono ?_)
        rintro e w4 ⟨rfl, hb4⟩
        rw [HN1.out]
        have HK4 := Aside0.mk (HK3.out.below hb4)
        have m2 := HK4.out.cell 2
        simp only [List.getElem?_toArray, List.getElem?_cons_zero, List.getElem?_cons_succ] at m2
        go_wp2
        go_ret
        refine ⟨?_, HK4.out.2⟩
        rw [← HLE.out]
        rfl
end
end Go.Proofs.YtlhkeohcickiaaaGreatDoor.E
namespace Go.Proofs.YtlhkeohcickiaaaGreatDoor.Prot
structure Cl (α : Type) where
 name : α
 lo : Int
 hi : Int
 ifs : List α
 unl : List α
 thn : α
variable {α : Type} [DecidableEq α]
def get : List (α × Nat) → α → Nat
 | [], _ => 0
 | (y, n) :: r, x => if y = x then n else get r x
def put : List (α × Nat) → α → Nat → List (α × Nat)
 | [], x, n => [(x, n)]
 | (y, k) :: r, x, n => if y = x then (y, n) :: r else (y, k) :: put r x n
theorem get_put_same (m : List (α × Nat)) (x : α) (n : Nat) : get (put m x n) x = n := by
 induction m with
 | nil => simp [put, get]
 | cons p r ih =>
  obtain ⟨y, k⟩ := p
  by_cases h : y = x
  ·simp [put, get, h]
  ·simp [put, get, h, ih]
theorem get_put_other (m : List (α × Nat)) {x z : α} (n : Nat) (h : x ≠ z) : get (put m x n) z = get m z := by
 induction m with
 | nil => simp [put, get, h]
 | cons p r ih =>
  obtain ⟨y, k⟩ := p
  by_cases hx : y = x
  ·subst hx; simp [put, get, h]
  ·by_cases hz : y = z
   ·subst hz; simp [put, get, hx]
   ·simp [put, get, hx, hz, ih]
def foldIf (m : List (α × Nat)) (l : List α) (n : Nat) : Nat := l.foldl (fun n f => max n (get m f)) n
def foldUn (m : List (α × Nat)) (l : List α) (n : Nat) : Nat := l.foldl (fun n f => max n (get m f + 1)) n
def wants (m : List (α × Nat)) (c : Cl α) : Nat := foldUn m c.unl (foldIf m c.ifs (get m c.thn))
theorem foldIf_le (m : List (α × Nat)) (l : List α) (n b : Nat) : foldIf m l n ≤ b ↔ n ≤ b ∧ ∀ f ∈ l, get m f ≤ b := by
 unfold foldIf
 induction l generalizing n with
 | nil => simp
 | cons f l ih =>
  rw [List.foldl_cons, ih]
  simp only [List.mem_cons, forall_eq_or_imp, Nat.max_le, and_assoc]
theorem foldUn_le (m : List (α × Nat)) (l : List α) (n b : Nat) : foldUn m l n ≤ b ↔ n ≤ b ∧ ∀ f ∈ l, get m f + 1 ≤ b := by
 unfold foldUn
 induction l generalizing n with
 | nil => simp
 | cons f l ih =>
  rw [List.foldl_cons, ih]
  simp only [List.mem_cons, forall_eq_or_imp, Nat.max_le, and_assoc]
theorem wants_le (m : List (α × Nat)) (c : Cl α) (b : Nat) :
  wants m c ≤ b ↔ get m c.thn ≤ b ∧ (∀ f ∈ c.ifs, get m f ≤ b) ∧ ∀ f ∈ c.unl, get m f < b := by
 unfold wants
 rw [foldUn_le, foldIf_le]
 constructor
 ·rintro ⟨⟨h1, h2⟩, h3⟩; exact ⟨h1, h2, h3⟩
 ·rintro ⟨h1, h2, h3⟩; exact ⟨⟨h1, h2⟩, h3⟩
theorem le_wants (m : List (α × Nat)) (c : Cl α) : get m c.thn ≤ wants m c := ((wants_le m c _).1 (Nat.le_refl _)).1
def passL (len : Nat) : List (Cl α) → List (α × Nat) → Bool → Option (List (α × Nat) × Bool)
 | [], m, b => some (m, b)
 | c :: cs, m, b =>
  if len < wants m c then none
  else if get m c.thn < wants m c then passL len cs (put m c.thn (wants m c)) true
  else passL len cs m b
def levelsF (book : List (Cl α)) : Nat → List (α × Nat) → Option (Option (List (α × Nat)))
 | 0, _ => none
 | k + 1, m =>
  match passL book.length book m false with
  | none => some none
  | some (m', true) => levelsF book k m'
  | some (m', false) => some (some m')
def levels (book : List (Cl α)) : Option (List (α × Nat)) := (levelsF book (book.length * book.length + 2) []).getD none
def Grows (m m' : List (α × Nat)) : Prop := ∀ x, get m x ≤ get m' x
theorem Grows.refl (m : List (α × Nat)) : Grows m m := fun _ => Nat.le_refl _
theorem Grows.trans {a b c : List (α × Nat)} (h : Grows a b) (k : Grows b c) : Grows a c := fun x => Nat.le_trans (h x) (k x)
theorem grows_put {m : List (α × Nat)} {x : α} {n : Nat} (h : get m x ≤ n) : Grows m (put m x n) := by
 intro z
 by_cases e : x = z
 ·subst e; rw [get_put_same]; exact h
 ·rw [get_put_other _ _ e]; exact Nat.le_refl _
theorem pass_grows (len : Nat) (cs : List (Cl α)) : ∀ (m : List (α × Nat)) (b : Bool) (m' : List (α × Nat)) (b' : Bool), passL len cs m b = some (m', b') →
  Grows m m' ∧ ((∀ x, get m x ≤ len) → ∀ x, get m' x ≤ len) ∧ (b = true → b' = true) ∧ (b = false → b' = true → ∃ c ∈ cs, get m c.thn < get m' c.thn) ∧
  (b' = false → m' = m ∧ ∀ c ∈ cs, wants m c ≤ get m c.thn) := by
 induction cs with
 | nil =>
  intro m b m' b' h
  simp only [passL, Option.some.injEq, Prod.mk.injEq] at h
  obtain ⟨rfl, rfl⟩ := h
  exact ⟨Grows.refl _, fun h => h, fun h => h, fun h k => (by rw [h] at k; cases k), fun _ => ⟨rfl, by simp⟩⟩
 | cons c cs ih =>
  intro m b m' b' h
  unfold passL at h
  split at h
  ·cases h
  ·rename_i hlen
   split at h
   ·rename_i hlt
    obtain ⟨g, hb, ht, _, hf⟩ := ih _ _ _ _ h
    have hg := grows_put (m := m) (x := c.thn) (n := wants m c) (le_wants m c)
    refine ⟨hg.trans g, fun hm => hb (fun x => ?_), fun _ => ht rfl, fun _ _ => ⟨c, by simp, ?_⟩, fun h' => ?_⟩
    ·by_cases e : c.thn = x
     ·subst e; rw [get_put_same]; omega
     ·rw [get_put_other _ _ e]; exact hm x
    ·have := g c.thn
     rw [get_put_same] at this
     omega
    ·rw [ht rfl] at h'; cases h'
   ·rename_i hnlt
    obtain ⟨g, hb, ht, hs, hf⟩ := ih _ _ _ _ h
    refine ⟨g, hb, ht, fun h1 h2 => ?_, fun h1 => ?_⟩
    ·obtain ⟨d, hd, hd'⟩ := hs h1 h2
     exact ⟨d, by simp [hd], hd'⟩
    ·obtain ⟨e, h3⟩ := hf h1
     refine ⟨e, ?_⟩
     intro d hd
     rcases List.mem_cons.1 hd with rfl | hd
     ·omega
     ·exact h3 d hd
def total (book : List (Cl α)) (m : List (α × Nat)) : Nat := (book.map fun c => get m c.thn).sum
theorem total_mono (book : List (Cl α)) {m m' : List (α × Nat)} (h : Grows m m') : total book m ≤ total book m' := by
 unfold total
 induction book with
 | nil => simp
 | cons c cs ih => simp only [List.map_cons, List.sum_cons]; have := h c.thn; omega
theorem total_lt (book : List (Cl α)) {m m' : List (α × Nat)} (h : Grows m m') (hc : ∃ c ∈ book, get m c.thn < get m' c.thn) : total book m < total book m' := by
 induction book with
 | nil => obtain ⟨c, hc, _⟩ := hc; cases hc
 | cons c cs ih =>
  obtain ⟨d, hd, hlt⟩ := hc
  have hm := total_mono cs h
  have hcc := h c.thn
  unfold total at *
  simp only [List.map_cons, List.sum_cons]
  rcases List.mem_cons.1 hd with rfl | hd
  ·omega
  ·have := ih ⟨d, hd, hlt⟩
   omega
theorem total_le (book : List (Cl α)) (len : Nat) (m : List (α × Nat)) (h : ∀ x, get m x ≤ len) : total book m ≤ book.length * len := by
 unfold total
 induction book with
 | nil => simp
 | cons c cs ih =>
  simp only [List.map_cons, List.sum_cons, List.length_cons, Nat.add_mul, Nat.one_mul]
  have := h c.thn
  omega
theorem levelsF_total (book : List (Cl α)) : ∀ (k : Nat) (m : List (α × Nat)), (∀ x, get m x ≤ book.length) → book.length * book.length + 1 ≤ total book m + k → levelsF book k m ≠ none := by
 intro k
 induction k with
 | zero =>
  intro m hm hk
  have := total_le book book.length m hm
  omega
 | succ k ih =>
  intro m hm hk
  unfold levelsF
  split
  ·simp
  ·rename_i m' h
   obtain ⟨g, hb, _, hs, _⟩ := pass_grows _ _ _ _ _ _ h
   refine ih m' (hb hm) ?_
   have := total_lt book g (hs rfl rfl)
   omega
  ·simp
theorem levels_eq (book : List (Cl α)) : levelsF book (book.length * book.length + 2) [] = some (levels book) := by
 have h := levelsF_total book (book.length * book.length + 2) [] (by simp [get]) (by omega)
 unfold levels
 cases hh : levelsF book (book.length * book.length + 2) [] with
 | none => exact absurd hh h
 | some r => rfl
def Fits (g : α → Nat) (book : List (Cl α)) : Prop := ∀ c ∈ book, (∀ f ∈ c.ifs, g f ≤ g c.thn) ∧ ∀ f ∈ c.unl, g f < g c.thn
theorem levelsF_fits (book : List (Cl α)) : ∀ (k : Nat) (m r : List (α × Nat)), (∀ x, get m x ≤ book.length) → levelsF book k m = some (some r) → Fits (get r) book ∧ ∀ x, get r x ≤ book.length := by
 intro k
 induction k with
 | zero => intro m r _ h; simp [levelsF] at h
 | succ k ih =>
  intro m r hm h
  unfold levelsF at h
  split at h
  ·simp at h
  ·rename_i m' hp
   obtain ⟨_, hb, _, _, _⟩ := pass_grows _ _ _ _ _ _ hp
   exact ih m' r (hb hm) h
  ·rename_i m' hp
   simp only [Option.some.injEq] at h
   subst h
   obtain ⟨_, hb, _, _, hf⟩ := pass_grows _ _ _ _ _ _ hp
   obtain ⟨rfl, hw⟩ := hf rfl
   exact ⟨fun c hc => ((wants_le _ c _).1 (hw c hc)).2, hm⟩
theorem levels_fits {book : List (Cl α)} {r : List (α × Nat)} (h : levels book = some r) : Fits (get r) book ∧ ∀ x, get r x ≤ book.length :=
 levelsF_fits book _ [] r (by simp [get]) (by rw [levels_eq, h])
theorem wants_fits {g : α → Nat} {m : List (α × Nat)} {c : Cl α} (hm : ∀ x, get m x ≤ g x) (h : (∀ f ∈ c.ifs, g f ≤ g c.thn) ∧ ∀ f ∈ c.unl, g f < g c.thn) : wants m c ≤ g c.thn :=
 (wants_le _ _ _).2 ⟨hm _, fun f hf => Nat.le_trans (hm f) (h.1 f hf), fun f hf => Nat.lt_of_le_of_lt (hm f) (h.2 f hf)⟩
theorem pass_below (len : Nat) (g : α → Nat) (hg : ∀ x, g x ≤ len) (cs : List (Cl α)) (hf : Fits g cs) : ∀ (m : List (α × Nat)) (b : Bool), (∀ x, get m x ≤ g x) →
  ∃ m' b', passL len cs m b = some (m', b') ∧ ∀ x, get m' x ≤ g x := by
 induction cs with
 | nil => intro m b hm; exact ⟨m, b, rfl, hm⟩
 | cons c cs ih =>
  intro m b hm
  have hw := wants_fits hm (hf c (by simp))
  have hf' : Fits g cs := fun d hd => hf d (by simp [hd])
  unfold passL
  rw [if_neg (by have := hg c.thn; omega)]
  split
  ·refine ih hf' _ _ (fun x => ?_)
   by_cases e : c.thn = x
   ·subst e; rw [get_put_same]; exact hw
   ·rw [get_put_other _ _ e]; exact hm x
  ·exact ih hf' _ _ hm
theorem levelsF_below (book : List (Cl α)) (g : α → Nat) (hg : ∀ x, g x ≤ book.length) (hf : Fits g book) : ∀ (k : Nat) (m : List (α × Nat)), (∀ x, get m x ≤ g x) → levelsF book k m ≠ some none ∧ ∀ r, levelsF book k m = some (some r) → ∀ x, get r x ≤ g x := by
 intro k
 induction k with
 | zero => intro m _; simp [levelsF]
 | succ k ih =>
  intro m hm
  obtain ⟨m', b', hp, hm'⟩ := pass_below book.length g hg book hf m false hm
  unfold levelsF
  rw [hp]
  cases b' with
  | true => exact ih m' hm'
  | false =>
   refine ⟨by simp, fun r hr => ?_⟩
   simp only [Option.some.injEq] at hr
   subst hr; exact hm'
def rank (g : α → Nat) (book : List (Cl α)) (x : α) : Nat := ((book.map fun c => g c.thn).eraseDups.filter fun v => decide (1 ≤ v) && decide (v ≤ g x)).length
theorem eraseDups_length_le (l : List Nat) : l.eraseDups.length ≤ l.length := by
 induction h : l.length using Nat.strongRecOn generalizing l with
 | _ n ih =>
  cases l with
  | nil => simp
  | cons a l =>
   rw [List.eraseDups_cons]
   simp only [List.length_cons] at h ⊢
   have h1 := List.length_filter_le (fun b => !b == a) l
   have h2 := ih _ (by omega) (l.filter fun b => !b == a) rfl
   omega
theorem rank_le (g : α → Nat) (book : List (Cl α)) (x : α) : rank g book x ≤ book.length := by
 unfold rank
 refine Nat.le_trans (List.length_filter_le _ _) (Nat.le_trans (eraseDups_length_le _) ?_)
 simp
theorem filter_length_mono {l : List Nat} {p q : Nat → Bool} (h : ∀ v, p v = true → q v = true) : (l.filter p).length ≤ (l.filter q).length := by
 induction l with
 | nil => simp
 | cons a l ih =>
  simp only [List.filter_cons]
  by_cases hp : p a = true
  ·simp only [hp, h a hp, if_true, List.length_cons]; omega
  ·by_cases hq : q a = true
   ·simp only [hp, hq, if_true, List.length_cons]; simp; omega
   ·simp only [hp, hq]; simpa using ih
theorem filter_length_lt {l : List Nat} {p q : Nat → Bool} (h : ∀ v, p v = true → q v = true) {a : Nat} (ha : a ∈ l) (hp : p a = false) (hq : q a = true) : (l.filter p).length < (l.filter q).length := by
 induction l with
 | nil => cases ha
 | cons b l ih =>
  simp only [List.filter_cons]
  rcases List.mem_cons.1 ha with rfl | ha
  ·simp only [hp, hq, if_true, List.length_cons]
   have := filter_length_mono (l := l) h
   simp; omega
  ·have := ih ha
   by_cases hb : p b = true
   ·simp only [hb, h b hb, if_true, List.length_cons]; omega
   ·by_cases hc : q b = true
    ·simp only [hb, hc, if_true, List.length_cons]; simp; omega
    ·simp only [hb, hc]; simpa using this
theorem rank_fits {g : α → Nat} {book : List (Cl α)} (h : Fits g book) : Fits (rank g book) book := by
 intro c hc
 obtain ⟨h1, h2⟩ := h c hc
 constructor
 ·intro f hf
  refine filter_length_mono fun v hv => ?_
  have := h1 f hf
  simp only [Bool.and_eq_true, decide_eq_true_eq] at hv ⊢
  omega
 ·intro f hf
  have := h2 f hf
  refine filter_length_lt (a := g c.thn) (fun v hv => ?_) ?_ ?_ ?_
  ·simp only [Bool.and_eq_true, decide_eq_true_eq] at hv ⊢
   omega
  ·rw [List.mem_eraseDups]; exact List.mem_map.2 ⟨c, hc, rfl⟩
  ·simp only [Bool.and_eq_false_iff, decide_eq_false_iff_not]; omega
  ·simp only [Bool.and_eq_true, decide_eq_true_eq]; omega
theorem levels_of_fits {g : α → Nat} {book : List (Cl α)} (h : Fits g book) : ∃ r, levels book = some r := by
 have hb := (levelsF_below book (rank g book) (rank_le g book) (rank_fits h) (book.length * book.length + 2) [] (by simp [get])).1
 rw [levels_eq] at hb
 cases hl : levels book with
 | none => rw [hl] at hb; exact absurd rfl hb
 | some r => exact ⟨r, rfl⟩
end Go.Proofs.YtlhkeohcickiaaaGreatDoor.Prot
namespace Go.Proofs.YtlhkeohcickiaaaGreatDoor.E
open Go.RowKit Go.Proofs.YtlhkeohcickiaaaGreatDoor.H Go.Proofs.YtlhkeohcickiaaaGreatDoorW.PrintWords Go.Proofs.YtlhkeohcickiaaaGreatDoorW.PrintLast Go.Proofs.YtlhkeohcickiaaaGreatDoorW.PrintMore
section
open Go.ChangeMaps (setBlock)
def emb (m : List (ByteArray × Nat)) : List (ByteArray × Value) := m.map fun p => (p.1, .int .i64 (p.2 : Nat))
theorem emb_length (m : List (ByteArray × Nat)) : (emb m).length = m.length := by simp [emb]
def topOf (m : List (ByteArray × Nat)) : Nat := m.foldl (fun t p => max t p.2) 0
theorem foldl_max_le (m : List (ByteArray × Nat)) : ∀ t b : Nat, m.foldl (fun t p => max t p.2) t ≤ b ↔ t ≤ b ∧ ∀ p ∈ m, p.2 ≤ b := by
 induction m with
 | nil => intro t b; simp
 | cons q l ih =>
  intro t b
  rw [List.foldl_cons, ih]
  simp only [List.mem_cons, forall_eq_or_imp, Nat.max_le, and_assoc]
theorem topOf_le {m : List (ByteArray × Nat)} {b : Nat} : topOf m ≤ b ↔ ∀ p ∈ m, p.2 ≤ b := by
 unfold topOf; rw [foldl_max_le]; simp
theorem le_topOf {m : List (ByteArray × Nat)} {p : ByteArray × Nat} (h : p ∈ m) : p.2 ≤ topOf m := topOf_le.1 (Nat.le_refl _) p h
structure RangeSt (W : World) (r it : Nat) (m : List (ByteArray × Nat)) (seen : Array Nat) (top : Nat) : Prop where
 map : H.MapAt H.encS W r (emb m)
 iter : W.heap[it]? = some (.mapIter (some r) m.length seen m.length)
 low : ∀ i p, m[i]? = some p → seen.contains i = true → p.2 ≤ top
 high : top ≤ topOf m
theorem RangeSt.lt {W : World} {r it : Nat} {m : List (ByteArray × Nat)} {seen : Array Nat} {top : Nat} (h : RangeSt W r it m seen top) : it < W.heap.size := (Array.getElem?_eq_some_iff.1 h.iter).1
theorem RangeSt.ne {W : World} {r it : Nat} {m : List (ByteArray × Nat)} {seen : Array Nat} {top : Nat} (h : RangeSt W r it m seen top) : it ≠ r := by
 rintro rfl
 have h1 := h.iter
 have h2 := h.map.out
 rw [h1] at h2
 cases h2
theorem setBlock_other (W : World) (it : Nat) (o : Obj) {k : Nat} (h : k ≠ it) : (setBlock W it o).heap[k]? = W.heap[k]? := by
 simp only [setBlock, Array.getElem?_setIfInBounds]
 rw [if_neg (fun e => h e.symm)]
theorem setBlock_same (W : World) (it : Nat) (o : Obj) (h : it < W.heap.size) : (setBlock W it o).heap[it]? = some o := by
 simp [setBlock, h]
theorem below_setBlock {B : Nat} {w W : World} (h : Below B w W) {it : Nat} (hr : B ≤ it) (o : Obj) : Below B w (setBlock W it o) :=
 h.trans ⟨rfl, rfl, rfl, by simp [setBlock], fun k hk => setBlock_other W it o (by omega)⟩
theorem ents_mem {m : List (ByteArray × Nat)} {e : MapEntry} (h : e ∈ (ents H.encS (emb m)).toList) : ∃ i p, m[i]? = some p ∧ e = { key := .string p.1, val := .int .i64 (p.2 : Nat), born := i } := by
 rw [Array.mem_toList_iff, Array.mem_iff_getElem?] at h
 obtain ⟨i, hi⟩ := h
 rw [ents_get] at hi
 simp only [emb, List.getElem?_map] at hi
 cases hm : m[i]? with
 | none => rw [hm] at hi; cases hi
 | some p =>
  rw [hm] at hi
  simp only [Option.map_some, Option.some.injEq] at hi
  exact ⟨i, p, hm, hi.symm⟩
theorem ents_born_nodup (m : List (ByteArray × Value)) : ((ents H.encS m).toList.map (·.born)).Nodup := by
 have : (ents H.encS m).toList.map (·.born) = List.range m.length := by
  apply List.ext_getElem?
  intro j
  simp only [List.getElem?_map, Array.getElem?_toList, ents_get]
  by_cases h : j < m.length
  ·simp [h]
  ·simp [h]
 rw [this]
 exact List.nodup_range
theorem left_push {es : Array MapEntry} {seen : Array Nat} {e : MapEntry} (he : e ∈ (leftOf es seen).toList) : (leftOf es (seen.push e.born)).size < (leftOf es seen).size := by
 have e1 : ∀ sn : Array Nat, (leftOf es sn).size = (es.toList.filter fun x => !sn.contains x.born).length := fun sn => by
  unfold leftOf
  rw [← Array.length_toList, Array.toList_filter]
 rw [e1, e1]
 unfold leftOf at he
 rw [Array.toList_filter, List.mem_filter] at he
 obtain ⟨hm, hn⟩ := he
 have key : ∀ l : List MapEntry, e ∈ l → (l.filter fun x => !(seen.push e.born).contains x.born).length < (l.filter fun x => !seen.contains x.born).length := by
  intro l
  have mono : ∀ l : List MapEntry, (l.filter fun x => !(seen.push e.born).contains x.born).length ≤ (l.filter fun x => !seen.contains x.born).length := by
   intro l
   induction l with
   | nil => simp
   | cons a l ih =>
    simp only [List.filter_cons]
    by_cases h1 : (!seen.contains a.born) = true
    ·rw [if_pos h1]
     split
     ·simp only [List.length_cons]; omega
     ·simp only [List.length_cons]; omega
    ·have h2 : ¬ (!(seen.push e.born).contains a.born) = true := by
      simp only [Bool.not_eq_true', Bool.not_eq_false] at h1 ⊢
      simp at h1 ⊢
      exact .inl h1
     rw [if_neg h1, if_neg h2]
     exact ih
  induction l with
  | nil => intro h; cases h
  | cons a l ih =>
   intro h
   rcases List.mem_cons.1 h with rfl | h
   ·have h2 : ¬ (!(seen.push e.born).contains e.born) = true := by simp
    simp only [List.filter_cons]
    rw [if_pos hn, if_neg h2]
    have := mono l
    simp only [List.length_cons]
    omega
   ·have h3 := ih h
    simp only [List.filter_cons]
    by_cases h1 : (!seen.contains a.born) = true
    ·rw [if_pos h1]
     split
     ·simp only [List.length_cons]; omega
     ·simp only [List.length_cons]; omega
    ·have h2 : ¬ (!(seen.push e.born).contains a.born) = true := by
      simp only [Bool.not_eq_true', Bool.not_eq_false] at h1 ⊢
      simp at h1 ⊢
      exact .inl h1
     rw [if_neg h1, if_neg h2]
     exact h3
 exact key _ hm
theorem range_step {P : Program} {W : World} {r it : Nat} {m : List (ByteArray × Nat)} {seen : Array Nat} {top : Nat} (h : RangeSt W r it m seen top) (ty : TypeId) :
  ((leftOf (ents H.encS (emb m)) seen).size = 0 ∧ top = topOf m ∧ (Instr.next (.pointer (some ⟨it, 0, none⟩)) false ty).run P W = .ok (.tuple #[.bool false]) W) ∨
  ∃ (p : ByteArray × Nat) (seen' : Array Nat) (W1 : World), (W1 = W ∨ W1 = W.drew) ∧
   (Instr.next (.pointer (some ⟨it, 0, none⟩)) false ty).run P W = .ok (.tuple #[.bool true, .string p.1, .int .i64 (p.2 : Nat)]) (setBlock W1 it (.mapIter (some r) m.length seen' m.length)) ∧
   (Instr.entry (.pointer (some ⟨it, 0, none⟩))).run P (setBlock W1 it (.mapIter (some r) m.length seen' m.length)) = .ok (.tuple #[.string p.1, .int .i64 (p.2 : Nat)]) (setBlock W1 it (.mapIter (some r) m.length seen' m.length)) ∧
   RangeSt (setBlock W1 it (.mapIter (some r) m.length seen' m.length)) r it m seen' (max top p.2) ∧ (leftOf (ents H.encS (emb m)) seen').size < (leftOf (ents H.encS (emb m)) seen).size := by
 have hb := h.map.out
 rw [emb_length] at hb
 have hold : ∀ x ∈ (ents H.encS (emb m)).toList, x.born < m.length := by
  intro x hx
  obtain ⟨i, p, hi, rfl⟩ := ents_mem hx
  exact (List.getElem?_eq_some_iff.1 hi).1
 rcases run_next_at (P := P) W ty it r m.length m.length seen _ _ h.iter hb hold (Nat.le_refl _) with ⟨h0, hrun⟩ | ⟨e, he, W1, hW1, hrun⟩
 ·left
  refine ⟨h0, ?_, hrun⟩
  refine Nat.le_antisymm h.high (topOf_le.2 fun p hp => ?_)
  obtain ⟨i, hi, hpi⟩ := List.getElem_of_mem hp
  have hgi : m[i]? = some p := by rw [List.getElem?_eq_getElem hi, hpi]
  refine h.low i p hgi ?_
  rcases hc : seen.contains i with _ | _
  ·exfalso
   have hmem : ({ key := .string p.1, val := .int .i64 (p.2 : Nat), born := i } : MapEntry) ∈ (leftOf (ents H.encS (emb m)) seen).toList := by
    unfold leftOf
    rw [Array.toList_filter, List.mem_filter]
    refine ⟨?_, by rw [hc]; rfl⟩
    rw [Array.mem_toList_iff, Array.mem_iff_getElem?]
    exact ⟨i, by rw [ents_get]; simp only [emb, List.getElem?_map, hgi, Option.map_some]; rfl⟩
   rw [Array.eq_empty_of_size_eq_zero h0] at hmem
   simp at hmem
  ·rfl
 ·right
  have hein : e ∈ (ents H.encS (emb m)).toList := by
   unfold leftOf at he
   rw [Array.toList_filter, List.mem_filter] at he
   exact he.1
  obtain ⟨i, p, hi, rfl⟩ := ents_mem hein
  have hheap : W1.heap = W.heap := by rcases hW1 with rfl | rfl <;> rfl
  have hs : (setBlock W1 it (.mapIter (some r) m.length (seen.push i) m.length)).heap[it]? = some (.mapIter (some r) m.length (seen.push i) m.length) := setBlock_same _ _ _ (by rw [hheap]; exact h.lt)
  have hr : (setBlock W1 it (.mapIter (some r) m.length (seen.push i) m.length)).heap[r]? = some (.map (ents H.encS (emb m)) m.length) := by rw [setBlock_other _ _ _ (Ne.symm h.ne), hheap]; exact hb
  refine ⟨p, seen.push i, W1, hW1, hrun, ?_, ⟨?_, hs, ?_, ?_⟩, left_push he⟩
  ·exact run_entry_at _ it r m.length seen _ _ _ hs hr hein (ents_born_nodup _)
  ·unfold H.MapAt; rw [hr, emb_length]
  ·intro j q hj hc
   by_cases hji : j = i
   ·subst hji
    rw [hi] at hj
    injection hj with hj
    subst hj
    omega
   ·have : seen.contains j = true := by
     simp at hc ⊢
     rcases hc with hc | hc
     ·exact hc
     ·exact absurd hc hji
    have := h.low j q hj this
    omega
  ·have := h.high
   have := le_topOf (List.mem_of_getElem? hi)
   omega
end
end Go.Proofs.YtlhkeohcickiaaaGreatDoor.E

