/- The card of ProtestOwns (without conditions), last part. -/
import Derived.Test.YtlhkeohcickiaaaGreatDoorKO35
import Derived.Test.YtlhkeohcickiaaaGreatDoorKO38
import Derived.Test.YtlhkeohcickiaaaGreatDoorKO15
import Derived.Test.YtlhkeohcickiaaaGreatDoorKO17
import Derived.Test.YtlhkeohcickiaaaGreatDoorKO28
import Derived.Test.YtlhkeohcickiaaaGreatDoorKO18
import Derived.Test.YtlhkeohcickiaaaGreatDoorKO31
import Derived.Test.YtlhkeohcickiaaaGreatDoorKO32
import Derived.Test.YtlhkeohcickiaaaGreatDoorKO33
import Derived.Test.YtlhkeohcickiaaaGreatDoorKO30
import Derived.Test.YtlhkeohcickiaaaGreatDoorKO34
import Derived.Deep.Slices
import Derived.Deep.Strs
import Derived.ChangeSlices
import Derived.DataElems
import Derived.Test.YtlhkeohcickiaaaGreatDoorRows
import Derived.Test.YtlhkeohcickiaaaGreatDoorTie
import Derived.Test.YtlhkeohcickiaaaGreatDoorCards
import Derived.WalkKit
import Derived.ProofKit
import Derived.OpenShut
import Derived.ShutString
import Derived.ChangeOld
import Derived.Below
import Derived.SizedLaws
import Derived.SevenTiedAt
import Derived.LaidMore
import Derived.Lay
import Derived.Stop.Joined
set_option linter.all false
namespace Go.Proofs.YtlhkeohcickiaaaGreatDoor.E
open Go.RowKit Go.Proofs.YtlhkeohcickiaaaGreatDoor.H Go.Proofs.YtlhkeohcickiaaaGreatDoorW.PrintWords Go.Proofs.YtlhkeohcickiaaaGreatDoorW.PrintLast Go.Proofs.YtlhkeohcickiaaaGreatDoorW.PrintMore
section
open Prot (heldOf derive proveL at_ stepOk thens)
theorem prot_holds_ok {l0 : List S25} {ed : Int} {facts : List ByteArray} {m : List (ByteArray × Nat)} {o : List Nat} (h : askedOf l0 ed facts = .ok (m, o)) : protest_Holds.f l0 ed facts = some (factsOf (heldOf (l0.map toC) facts o), 0) := by
 unfold protest_Holds.f holdsOf
 rw [h]
theorem prot_holds_err {l0 : List S25} {ed : Int} {facts : List ByteArray} {p : Int × Int} (h : askedOf l0 ed facts = .error p) : protest_Holds.f l0 ed facts = some ([], p.2) := by
 unfold protest_Holds.f holdsOf
 rw [h]
end
section
open Prot (heldOf derive proveL at_ stepOk thens)
theorem spoil_l0 : ∀ (d k i : Nat) (l : List ByteArray), l.length ≤ 100000 → i ≤ l.length → l.length - i = d → d < k → ∃ r, besomlaw09_spoil.l0 k l (i : Int) = some r := by
 intro d
 induction d with
 | zero =>
  intro k i l h0 h1 h2 h3
  obtain ⟨k, rfl⟩ : ∃ m, k = m + 1 := ⟨k - 1, by omega⟩
  simp only [besomlaw09_spoil.l0]
  rw [if_neg (by omega)]
  exact ⟨_, rfl⟩
 | succ d ih =>
  intro k i l h0 h1 h2 h3
  obtain ⟨k, rfl⟩ : ∃ m, k = m + 1 := ⟨k - 1, by omega⟩
  simp only [besomlaw09_spoil.l0]
  rw [if_pos (by omega), if_pos (by omega), wrapM (by omega)]
  exact ih k (i + 1) _ (by rw [List.length_set]; omega) (by rw [List.length_set]; omega) (by rw [List.length_set]; omega) (by omega)
theorem spoil_ex (l : List ByteArray) (k : Nat) (h : l.length ≤ 100000) (hk : l.length < k) : ∃ r, besomlaw09_spoil.f k l = some r :=
 spoil_l0 l.length k 0 l h (by omega) (by omega) hk
theorem holds_length {l0 : List S25} {ed : Int} {facts h : List ByteArray} (e : holdsOf l0 ed facts = .ok h) : h.length ≤ 128 := by
 unfold holdsOf at e
 split at e
 ·cases e
 ·rename_i ha
  cases e
  exact Nat.le_trans (factsOf_length _) (held_length ha).1
theorem ref_holds (l0 : List S25) (ed : Int) (facts : List ByteArray) (k : Nat) (hf : facts.length ≤ 70) (hk : 5000000 ≤ k) : ∃ h e, protest_Holds.f l0 ed facts = some (h, e) ∧ besomref09_Holds.f k l0 ed facts = some (h, e) ∧ h.length ≤ 128 := by
 unfold besomref09_Holds.f
 rw [asked_eq l0 ed facts k (by omega) (by omega), Option.bind_some]
 unfold askedErr
 cases ha : askedOf l0 ed facts with
 | error p =>
  refine ⟨[], p.2, prot_holds_err ha, ?_, by simp⟩
  simp only [asked_err ha, if_false]
 | ok mo =>
  obtain ⟨m, o⟩ := mo
  have hl := held_length ha
  refine ⟨_, 0, prot_holds_ok ha, ?_, Nat.le_trans (factsOf_length _) hl.1⟩
  simp only [if_true, make1_eq ha, Option.bind_some]
  rw [Rising_eq _ _ (by omega) (by omega), Option.bind_some]
theorem Owns_loop (l0 : List S25) (a1 : Int) (l2 : List ByteArray) (a3 : ByteArray) (hf : l2.length ≤ 70) : ∀ (d k i : Nat) (s : List Int), s.length ≤ 100000 → i ≤ s.length → s.length - i = d → 6000000 + d < k → besomlaw09_ProtestOwns.l0 k l0 a1 l2 l2 s (i : Int) = some true := by
 intro d
 induction d with
 | zero =>
  intro k i s h0 h1 h2 h3
  obtain ⟨k, rfl⟩ : ∃ m, k = m + 1 := ⟨k - 1, by omega⟩
  obtain ⟨h, e, p1, p2, p3⟩ := ref_holds l0 a1 l2 k hf (by omega)
  simp only [besomlaw09_ProtestOwns.l0]
  rw [if_neg (by omega), p1, Option.bind_some, p2, Option.bind_some, Same_eq l2 l2 _ (by omega) (by omega), Option.bind_some, if_pos (by simp), Same_eq h h _ (by omega) (by omega), Option.bind_some, if_pos (by simp), if_pos rfl]
  rfl
 | succ d ih =>
  intro k i s h0 h1 h2 h3
  obtain ⟨k, rfl⟩ : ∃ m, k = m + 1 := ⟨k - 1, by omega⟩
  simp only [besomlaw09_ProtestOwns.l0]
  rw [if_pos (by omega), if_pos (by omega), wrapM (by omega)]
  exact ih k (i + 1) _ (by rw [List.length_set]; omega) (by rw [List.length_set]; omega) (by rw [List.length_set]; omega) (by omega)
theorem ProtestOwns_true (l0 : List S25) (a1 : Int) (l2 : List ByteArray) (a3 : ByteArray) : ∃ k, besomlaw09_ProtestOwns.f k l0 a1 l2 a3 = some true := by
 obtain ⟨b, g1, g2⟩ := great_ex l0 l2
 refine ⟨10000000, ?_⟩
 have hj : ∀ b, (b = false → l2.length ≤ 70) → besomlaw09_ProtestOwns.j0 (9999999 + 1) l0 a1 l2 a3 b = some true := fun b hb => by
  simp only [besomlaw09_ProtestOwns.j0]
  cases b with
  | true => rfl
  | false =>
   have h1 := hb rfl
   rw [if_neg (by decide)]
   simp only [Option.bind_some, List.nil_append, List.length_nil, Nat.zero_add]
   rw [if_pos (by omega)]
   have e1 : ∃ h e, protest_Holds.f l0 a1 l2 = some (h, e) ∧ h.length ≤ 128 := by
    unfold protest_Holds.f
    cases h : holdsOf l0 a1 l2 with
    | error p => exact ⟨_, _, rfl, by simp⟩
    | ok r => exact ⟨_, _, rfl, holds_length h⟩
   have e2 : ∃ h e, protest_Why.f l0 a1 l2 a3 = some (h, e) ∧ h.length ≤ 128 := by
    unfold protest_Why.f whyOf
    cases h : askedOf l0 a1 l2 with
    | error p => exact ⟨_, _, rfl, by simp⟩
    | ok mo =>
     obtain ⟨m, o⟩ := mo
     simp only
     split
     ·exact ⟨_, _, rfl, by simp⟩
     ·rename_i r hr
      refine ⟨_, _, rfl, ?_⟩
      split at hr
      ·split at hr
       ·cases hr
        have : (derive (l0.map toC) o a3).length ≤ o.length := List.length_filter_le _ _
        have := (held_length h).2
        simp only [ints, List.length_map]
        omega
       ·cases hr
      ·cases hr
   have e3 : ∃ g h e, protest_Changed.f l0 a1 (wrap64 (Int.tdiv a1 2)) l2 = some (g, h, e) ∧ g.length ≤ 128 ∧ h.length ≤ 128 := by
    unfold protest_Changed.f changedOf
    cases h : holdsOf l0 a1 l2 with
    | error p => exact ⟨_, _, _, rfl, by simp, by simp⟩
    | ok r =>
     cases h2 : holdsOf l0 (wrap64 (Int.tdiv a1 2)) l2 with
     | error p => exact ⟨_, _, _, rfl, by simp, by simp⟩
     | ok r2 => exact ⟨_, _, _, rfl, Nat.le_trans (List.length_filter_le _ _) (holds_length h), Nat.le_trans (List.length_filter_le _ _) (holds_length h2)⟩
   obtain ⟨x, xe, p1, p2⟩ := e1
   obtain ⟨y, ye, p3, p4⟩ := e2
   obtain ⟨z, z', ze, p5, p6, p7⟩ := e3
   obtain ⟨r1, q1⟩ := spoil_ex x 9999999 (by omega) (by omega)
   obtain ⟨r2, q2⟩ := spoil_ex z 9999999 (by omega) (by omega)
   obtain ⟨r3, q3⟩ := spoil_ex z' 9999999 (by omega) (by omega)
   rw [p1, Option.bind_some, p3, Option.bind_some, p5, Option.bind_some, q1, Option.bind_some, q2, Option.bind_some, q3, Option.bind_some]
   exact Owns_loop l0 a1 l2 a3 h1 y.length 9999999 0 y (by omega) (by omega) (by omega) (by omega)
 unfold besomlaw09_ProtestOwns.f
 rw [g1 _ (by omega), Option.bind_some]
 cases b with
 | true => rw [if_pos rfl]; exact hj true (by simp)
 | false =>
  rw [if_neg (by decide)]
  exact hj _ fun _ => (g2 rfl).2
end
section
section
variable {H : Type} {enc : TypeId × Value → H} {w : World} {base : Nat} {spare : Nat → Bool} {held : Bool} {fuel : Nat} {cs : List Value} {x : DataW H × List MemPlace}
theorem open_S {t : TypeId} (ht : Tryz.prog.underlying t = some (.slice 9)) (h : DataW.trod enc Tryz.prog w base spare held fuel t cs = some x) : ∃ A l c, cs = [.slice A (l : List ByteArray).length c] ∧ l.length ≤ c ∧ Kd.C Kd.string w A l.length l := by
 rcases Go.Deep.open_strs ht Tryz.underlying9 (by kernel_rfl) h with ⟨rfl, _⟩ | ⟨a, len, cap, m, Sx, rfl, _, hl, hm, hmm, _, hc⟩
 ·exact ⟨none, [], 0, rfl, Nat.le_refl _, rfl, by decide, fun h => absurd h (by decide)⟩
 ·have hlm : len ≤ m := by rw [hmm]; split <;> omega
  refine ⟨some a, (List.range len).map Sx, cap, by simp, by simpa using hl, rfl, by simp only [List.length_map, List.length_range, maxLen] at *; omega, fun _ => ⟨a, rfl, fun j p hj => ⟨[.string p], rfl, rfl, fun i u hu => ?_⟩⟩⟩
  obtain ⟨hjl, rfl⟩ : j < len ∧ p = Sx j := by
   rw [List.getElem?_map] at hj
   obtain ⟨q, hq, rfl⟩ := Option.map_eq_some_iff.1 hj
   obtain ⟨h1, h2⟩ := List.getElem?_eq_some_iff.1 hq
   simp only [List.length_range] at h1
   rw [List.getElem_range] at h2
   subst h2
   exact ⟨h1, rfl⟩
  cases i with
  | succ n => simp at hu
  | zero =>
   simp at hu
   subst hu
   show w.cell? (a.add (j * 1 + 0)) = _
   rw [Nat.mul_one, Nat.add_zero]
   exact (hc j (by omega)).1
set_option maxRecDepth 100000 in
theorem open_cl (h : DataW.trod enc Tryz.prog w base spare held fuel 25 cs = some x) : ∃ y : S25, k25.K w y cs := by
 obtain ⟨xs, n, _, _, hl, hlen, hf⟩ := DataW.trod_struct Tryz.underlying25 h
 have hl6 : cs.length = 6 := hl.trans (by kernel_rfl)
 have e9 : Tryz.prog.cellsOf 9 = 1 := by kernel_rfl
 have e3 : Tryz.prog.cellsOf 3 = 1 := by kernel_rfl
 have e23 : Tryz.prog.cellsOf 23 = 1 := by kernel_rfl
 have hx6 : xs.length = 6 := hlen
 match cs, hl6 with
 | [v0, v1, v2, v3, v4, v5], _ =>
  match xs, hx6 with
  | [y0, y1, y2, y3, y4, y5], _ =>
   have f0 := hf 0 _ rfl
   have f1 := hf 1 _ rfl
   have f2 := hf 2 _ rfl
   have f3 := hf 3 _ rfl
   have f4 := hf 4 _ rfl
   have f5 := hf 5 _ rfl
   simp only [e9, e3, e23, List.drop_zero, List.drop_succ_cons, List.take_succ_cons, List.take_zero, List.getElem?_cons_zero, List.getElem?_cons_succ] at f0 f1 f2 f3 f4 f5
   obtain ⟨s0, g0, _⟩ := DataW.trod_string Tryz.underlying9 f0
   obtain ⟨n1, g1, _⟩ := DataW.trod_int Tryz.underlying3 f1
   obtain ⟨n2, g2, _⟩ := DataW.trod_int Tryz.underlying3 f2
   obtain ⟨A3, l3, c3, g3, h3, q3⟩ := open_S Tryz.underlying23 f3
   obtain ⟨A4, l4, c4, g4, h4, q4⟩ := open_S Tryz.underlying23 f4
   obtain ⟨s5, g5, _⟩ := DataW.trod_string Tryz.underlying9 f5
   cases g0; cases g1; cases g2; cases g3; cases g4; cases g5
   exact ⟨⟨s0, n1, n2, l3, l4, s5⟩, k25_mk w ⟨s0, n1, n2, l3, l4, s5⟩ h3 q3 h4 q4⟩
theorem open_book {t : TypeId} (ht : Tryz.prog.underlying t = some (.slice 25)) (h : DataW.trod enc Tryz.prog w base spare held fuel t cs = some x) : ∃ A l c, cs = [.slice A (l : List S25).length c] ∧ l.length ≤ c ∧ Kd.C k25 w A l.length l := by
 rcases Go.Deep.open_slice ht h with ⟨rfl, _⟩ | ⟨a, len, cap, m, n, D, Pl, rfl, _, hl, hm, hmm, _, hc⟩
 ·exact ⟨none, [], 0, rfl, Nat.le_refl _, rfl, by decide, fun h => absurd h (by decide)⟩
 ·have hlm : len ≤ m := by rw [hmm]; split <;> omega
  have e25 : Tryz.prog.cellsOf 25 = 6 := by kernel_rfl
  have each : ∀ i, i < m → ∃ y : S25, ∃ cs', cs'.length = 6 ∧ k25.K w y cs' ∧ ∀ j, j < 6 → w.cell? ((a.add (i * 6)).add j) = cs'[j]? := fun i hi => by
   obtain ⟨cs', h1, h2⟩ := hc i hi
   rw [e25] at h1
   obtain ⟨_, h3, h4⟩ := World.cells?_some h1
   obtain ⟨y, hy⟩ := open_cl h2
   exact ⟨y, cs', h3, hy, h4⟩
  have : ∃ Y : Nat → S25, ∀ i, i < m → ∃ cs', cs'.length = 6 ∧ k25.K w (Y i) cs' ∧ ∀ j, j < 6 → w.cell? ((a.add (i * 6)).add j) = cs'[j]? := by
   refine ⟨fun i => if h : i < m then (each i h).choose else z25, fun i hi => ?_⟩
   simp only [hi, dif_pos]
   exact (each i hi).choose_spec
  obtain ⟨Y, hY⟩ := this
  refine ⟨some a, (List.range len).map Y, cap, by simp, by simpa using hl, rfl, by simp only [List.length_map, List.length_range, maxLen] at *; omega, fun _ => ⟨a, rfl, fun j p hj => ?_⟩⟩
  obtain ⟨hjl, rfl⟩ : j < len ∧ p = Y j := by
   rw [List.getElem?_map] at hj
   obtain ⟨q, hq, rfl⟩ := Option.map_eq_some_iff.1 hj
   obtain ⟨h1, h2⟩ := List.getElem?_eq_some_iff.1 hq
   simp only [List.length_range] at h1
   rw [List.getElem_range] at h2
   subst h2
   exact ⟨h1, rfl⟩
  obtain ⟨cs', h1, h2, h3⟩ := hY j (by omega)
  refine ⟨cs', h1, h2, fun i u hu => ?_⟩
  have hi6 : i < 6 := by have := (List.getElem?_eq_some_iff.1 hu).1; omega
  have := h3 i hi6
  rw [hu] at this
  rw [← this]
  show w.cell? (a.add (j * 6 + i)) = w.cell? ((a.add (j * 6)).add i)
  rw [Go.Addr.add_add]
end
end
end Go.Proofs.YtlhkeohcickiaaaGreatDoor.E
namespace Go.Proofs.YtlhkeohcickiaaaGreatDoor.protestOwns
open Go.ChangeShapes Go.WideShapes Go.ChangeAt Go.RowKit Go.Proofs.YtlhkeohcickiaaaGreatDoor.E Go.Proofs.YtlhkeohcickiaaaGreatDoorW.PrintWords Go.Proofs.YtlhkeohcickiaaaGreatDoorW.PrintLast Go.Proofs.YtlhkeohcickiaaaGreatDoorW.PrintMore
open Go.ChangeMaps (open_string shut_string)
theorem own : ownKnob Tryz.prog.godebug = none := by kernel_rfl
theorem laidOut : laidOutB Tryz.prog = true := by kernel_rfl
set_option maxRecDepth 100000 in
theorem lifted (os : Os) (started : os.Started) (H : Type) (enc : TypeId × Value → H) :
  ReturnsInHanded {} Tryz.checked os 7 .any (fun w args => (Rows.protestOwnsSpec.pre enc Tryz.prog Tryz.f7 Rows.protestOwnsRow.domain false w args ∧ laidMetH Tryz.prog Rows.protestOwnsRow.laid w) ∧ sizedMet enc Tryz.prog Tryz.f7 (OpenSpec.ofChange Rows.protestOwnsSpec) false w args)
   (Rows.protestOwnsSpec.post enc Tryz.prog Tryz.f7 false true false false) := by
 refine returnsInHanded_of_change_and (C := Tryz.checked) (X := fun w _ => laidMetH Tryz.prog Rows.protestOwnsRow.laid w) (fun _ _ _ hh h => h.of_heap hh) own started (by kernel_rfl) Tryz.func7
  (ChangeSpec.witness_shaped (enc := enc) (C := Tryz.checked) (os := os) (X := fun w _ => laidMetH Tryz.prog Rows.protestOwnsRow.laid w) false (World.laidAll Tryz.prog os Rows.protestOwnsRow.laid) #[.slice none 0 0, .int .i64 0, .slice none 0 0, .string ByteArray.empty] 8 (World.laidAll_os _ _ _)
   (World.shaped_of_ZipB (by kernel_rfl) (by kernel_rfl)) (by kernel_rfl) (by kernel_rfl) (by kernel_rfl)
   (by rw [MakeChecks.laidMetH_plain _ _ _ (by kernel_rfl)]; exact laidMet_laidAll _ (by kernel_rfl) (by kernel_rfl))) ?_
 intro W base args ds gs before hval0 hW hc _ hL _
 have hval : ∀ (j : Nat) t v, Tryz.f7.params[j]? = some t → args[j]? = some v → Value.okWide Tryz.prog W .any base t v := hval0
 have hW' := hW
 obtain ⟨p, q, hA0, hV, rfl, hfz, hnd⟩ := hW
 have hA : DataW.TrodAll enc Tryz.prog W 0 (fun _ => true) true Tryz.f7.params.toList args.toList ds p := hA0
 rw [Tryz.params7] at hA hval
 obtain ⟨v0, vs0, d0, ds0, p0, q0, hargs, rfl, rfl, h0, r0⟩ := trodAll_cons hA
 obtain ⟨v1, vs1, d1, ds1, p1, q1, rfl, rfl, rfl, h1, r1⟩ := trodAll_cons r0
 obtain ⟨v2, vs2, d2, ds2, p2, q2, rfl, rfl, rfl, h2, r2⟩ := trodAll_cons r1
 obtain ⟨v3, vs3, d3, ds3, p3, q3, rfl, rfl, rfl, h3, r3⟩ := trodAll_cons r2
 obtain ⟨rfl, rfl, rfl⟩ := trodAll_nil r3
 obtain rfl : args = #[v0, v1, v2, v3] := by cases args; simp_all
 obtain ⟨rfl, rfl⟩ := trodVars_none hV
 obtain ⟨a0, len0, cap0, rfl⟩ := okWide_slice Tryz.underlying22 (hval 0 22 v0 rfl rfl)
 have k0 := h0
 have lt0 : ∀ x ∈ p0, x.block < W.heap.size := by obtain ⟨m, hm⟩ := k0; exact DataW.trod_lt m _ _ _ hm
 obtain ⟨l0, e0, c0, w0⟩ : ∃ l : List S25, len0 = l.length ∧ l.length ≤ cap0 ∧ Kd.C k25 W a0 l.length l := by
  obtain ⟨fuel, hf⟩ := h0
  obtain ⟨A, l, c, hcs, hl, hC⟩ := open_book Tryz.underlying22 hf
  simp [Value.cells] at hcs
  obtain ⟨rfl, rfl, rfl⟩ := hcs
  exact ⟨l, rfl, hl, hC⟩
 subst e0
 obtain ⟨a1, rfl, rfl, rfl, w1⟩ := open_int Tryz.underlying3 (hval 1 3 v1 rfl rfl) h1
 obtain ⟨a2, len2, cap2, rfl⟩ := okWide_slice Tryz.underlying23 (hval 2 23 v2 rfl rfl)
 have k2 := h2
 have lt2 : ∀ x ∈ p2, x.block < W.heap.size := by obtain ⟨m, hm⟩ := k2; exact DataW.trod_lt m _ _ _ hm
 obtain ⟨l2, e2, c2, w2⟩ : ∃ l : List ByteArray, len2 = l.length ∧ l.length ≤ cap2 ∧ Kd.C Kd.string W a2 l.length l := by
  obtain ⟨fuel, hf⟩ := h2
  obtain ⟨A, l, c, hcs, hl, hC⟩ := open_S Tryz.underlying23 hf
  simp [Value.cells] at hcs
  obtain ⟨rfl, rfl, rfl⟩ := hcs
  exact ⟨l, rfl, hl, hC⟩
 subst e2
 obtain ⟨a3, rfl, rfl, rfl, y3⟩ := open_string Tryz.underlying9 (hval 3 9 v3 rfl rfl) h3
 clear hA0 hval0
 obtain ⟨kk, hkk⟩ := ProtestOwns_true l0 a1 l2 a3
 refine (besomlaw09_ProtestOwns.calls kk a0 cap0 l0 a1 a2 cap2 l2 a3 true W w0 c0 w2 c2 hkk).mono fun e W' ⟨he, bel⟩ => ?_
 subst he
 exact ⟨_, rfl, _, _, _, [], _, [], hW', trodAll_mk1 (shut_bool Tryz.underlying4 _), (trodAll_cons_mk (Below.trod laidOut (by kernel_rfl) (of_decide_eq_true (by kernel_rfl)) k0 bel lt0) (trodAll_cons_mk (shut_int Tryz.underlying3 w1) (trodAll_cons_mk (Below.trod laidOut (by kernel_rfl) (of_decide_eq_true (by kernel_rfl)) k2 bel lt2) (trodAll_cons_mk (shut_string Tryz.underlying9 y3) trodAll_mk0)))), rfl, bel.frame _, fun h => by cases h⟩
theorem over : Rows.protestOwnsRow.holds Tryz.pinned (OpenSpec.ofChange Rows.protestOwnsSpec) :=
 OpenClaim.holds_of_wide 7 Tryz.f7 rfl rfl rfl rfl rfl rfl rfl ⟨rfl, rfl, rfl, rfl, rfl⟩ rfl rfl rfl rfl rfl (by kernel_rfl) Tryz.func7 (by kernel_rfl)
  (of_decide_eq_true (by kernel_rfl)) (by unfold Func.isWrapper; first | (rw [if_pos (by decide +kernel)]; kernel_rfl) | (rw [if_neg (by decide +kernel)]; exact ⟨rfl, rfl⟩))
  (fun os started H enc _ => lifted os started H enc)
theorem proved : Rows.ProtestOwnsSaid := over
theorem carded : Rows.ProtestOwnsCardSaid :=
 Claim7.holds_tied_plain_at .later [] [.data, .pinned] true (true, "98843cd4e3891271ebdf8b02a3300920f08920e848e48566e9e63e5fe3d60fc8") true proved (fun _ h => by cases h) (by kernel_rfl) (fun _ h => by cases h) protestOwns_row_tie rfl ⟨rfl, rfl⟩ (by kernel_rfl) rfl
  (fun f fn hf hfn => by
   obtain rfl : f = 7 := Option.some.inj ((show Tryz.prog.funcNamed "besom/besomlaw09.ProtestOwns" = some 7 by kernel_rfl).symm.trans hf) |>.symm
   obtain rfl : fn = Tryz.f7 := (Option.some.inj (Tryz.func7.symm.trans hfn)).symm
   exact ⟨by kernel_rfl, fun j t ht => by
    rw [Tryz.params7] at ht
    have hm : t ∈ [22, 3, 23, 9] := by simpa using Array.mem_of_getElem? ht
    have hall : ([22, 3, 23, 9].all fun u => !Tryz.prog.wantsStandIn u) = true := by kernel_rfl
    exact (show Tryz.prog.wantsStandIn t = false by simpa using List.all_eq_true.1 hall t hm)⟩)
  (by kernel_rfl)
end Go.Proofs.YtlhkeohcickiaaaGreatDoor.protestOwns
namespace Go.Proofs.YtlhkeohcickiaaaGreatDoor
theorem protestOwns_card : Rows.ProtestOwnsCardSaid := protestOwns.carded
end Go.Proofs.YtlhkeohcickiaaaGreatDoor

