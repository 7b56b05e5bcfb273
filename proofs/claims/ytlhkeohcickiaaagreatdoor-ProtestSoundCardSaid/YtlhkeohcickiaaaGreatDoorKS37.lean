/- LawProtestSound, part 37 of 37: my texts (walks of the program over sparse frames, plain laws, and texts that print.py printed for this seat), without what the statement does not reach. -/
import Derived.Test.YtlhkeohcickiaaaGreatDoorKS30
import Derived.Test.YtlhkeohcickiaaaGreatDoorKS27
import Derived.Test.YtlhkeohcickiaaaGreatDoorKS35
import Derived.Test.YtlhkeohcickiaaaGreatDoorKS36
import Derived.Test.YtlhkeohcickiaaaGreatDoorKS26
import Derived.Deep.Slices
import Derived.Deep.Strs
import Derived.ChangeSlices
import Derived.DataElems
import Derived.Test.YtlhkeohcickiaaaGreatDoorRows
import Derived.Test.YtlhkeohcickiaaaGreatDoorTie
import Derived.Test.YtlhkeohcickiaaaGreatDoorCards
import Derived.WalkKit
import Derived.ProofKit
import Derived.OpenShut
import Derived.ShutString
import Derived.ChangeOld
import Derived.Below
import Derived.SizedLaws
import Derived.SevenTiedAt
import Derived.LaidMore
import Derived.Lay
import Derived.Stop.Joined
set_option linter.all false
namespace Go.Proofs.YtlhkeohcickiaaaGreatDoor.E
open Go.RowKit Go.Proofs.YtlhkeohcickiaaaGreatDoor.H Go.Proofs.YtlhkeohcickiaaaGreatDoorW.PrintWords Go.Proofs.YtlhkeohcickiaaaGreatDoorW.PrintLast Go.Proofs.YtlhkeohcickiaaaGreatDoorW.PrintMore
section
open Prot (heldOf derive proveL at_ stepOk thens isProof)
theorem asked_model {l0 : List S25} {ed : Int} {facts : List ByteArray} {m : List (ByteArray × Nat)} {o : List Nat} (h : askedOf l0 ed facts = .ok (m, o)) : Prot.Model ed (l0.map toC) facts o :=
 have h' := asked_ok h
 model_of h'.1 h'.2
theorem prot_holds_ok {l0 : List S25} {ed : Int} {facts : List ByteArray} {m : List (ByteArray × Nat)} {o : List Nat} (h : askedOf l0 ed facts = .ok (m, o)) : protest_Holds.f l0 ed facts = some (factsOf (heldOf (l0.map toC) facts o), 0) := by
 unfold protest_Holds.f holdsOf
 rw [h]
theorem prot_holds_err {l0 : List S25} {ed : Int} {facts : List ByteArray} {p : Int × Int} (h : askedOf l0 ed facts = .error p) : protest_Holds.f l0 ed facts = some ([], p.2) := by
 unfold protest_Holds.f holdsOf
 rw [h]
theorem prot_why_ok {l0 : List S25} {ed : Int} {facts : List ByteArray} {m : List (ByteArray × Nat)} {o : List Nat} (h : askedOf l0 ed facts = .ok (m, o)) {c : ByteArray} (hn : nameB c = true) (hc : c ∈ heldOf (l0.map toC) facts o) :
  protest_Why.f l0 ed facts c = some (ints (derive (l0.map toC) o c), 0) := by
 unfold protest_Why.f whyOf
 rw [h]
 have : has (setOf (heldOf (l0.map toC) facts o)) c = true := by rw [has_setOf]; exact decide_eq_true hc
 simp only [hn, this, if_true]
theorem index_of {l0 : List S25} {l : List Nat} (h : ∀ i ∈ l, i < l0.length) : indexB l0.length (ints l) = true := by
 unfold indexB ints
 rw [List.all_eq_true]
 intro x hx
 obtain ⟨i, hi, rfl⟩ := List.mem_map.1 hx
 have := h i hi
 simp only [Bool.and_eq_true, decide_eq_true_eq]
 show 0 ≤ ((i : Nat) : Int) ∧ ((i : Nat) : Int) ≤ _
 omega
theorem ints_back (l : List Nat) : (ints l).map Int.toNat = l := by
 unfold ints
 rw [List.map_map]
 conv => rhs; rw [← List.map_id l]
 exact List.map_congr_left fun _ _ => rfl
theorem prot_proves_ok {l0 : List S25} {ed : Int} {facts : List ByteArray} {m : List (ByteArray × Nat)} {o : List Nat} (h : askedOf l0 ed facts = .ok (m, o)) {c : ByteArray} (hn : nameB c = true) {l : List Nat} (hl : ∀ i ∈ l, i < l0.length) :
  protest_Proves.f l0 ed facts (ints l) c = some (isProof ed (l0.map toC) facts (heldOf (l0.map toC) facts o) l c, atOf (proveL ed (l0.map toC) (heldOf (l0.map toC) facts o) l facts 0).1, 0) := by
 unfold protest_Proves.f provesOf
 rw [h]
 simp only [hn, index_of hl, if_true, ints_back]
 unfold isProof
 rw [← cont_has]
end
section
open Prot (heldOf derive proveL at_ stepOk thens isProof)
attribute [local go_sem] slk sget sput uponK_value uponK_skip uponK_enter
theorem sound_plain (l0 : List S25) (a1 : Int) (l2 : List ByteArray) (l3 : List Int) (a4 : ByteArray) : ∃ (is : Bool) (n e : Int) (ws : List Int) (f : Int) (hs : List ByteArray) (g : Int),
  protest_Proves.f l0 a1 l2 l3 a4 = some (is, n, e) ∧ protest_Why.f l0 a1 l2 a4 = some (ws, f) ∧ protest_Holds.f l0 a1 l2 = some (hs, g) ∧ hs.length ≤ 128 ∧ (e ≠ 0 → is = false) ∧ (e = 0 → g = 0 ∧ (f = 0 ↔ a4 ∈ hs) ∧ (is = true → f = 0)) := by
 cases ha : askedOf l0 a1 l2 with
 | error p =>
  have hp := asked_err ha
  refine ⟨false, -1, p.2, [], p.2, [], p.2, ?_, ?_, prot_holds_err ha, by simp, fun _ => rfl, fun h => absurd h hp⟩
  ·unfold protest_Proves.f provesOf; rw [ha]; simp [hp]
  ·unfold protest_Why.f whyOf; rw [ha]
 | ok mo =>
  obtain ⟨m, o⟩ := mo
  have M := asked_model ha
  obtain ⟨hb, hm⟩ := asked_ok ha
  have hl := held_length ha
  have hh : has (setOf (heldOf (l0.map toC) l2 o)) a4 = decide (a4 ∈ heldOf (l0.map toC) l2 o) := has_setOf _ _
  by_cases hn : nameB a4 = true
  case neg =>
   refine ⟨false, -1, 2, [], 2, _, 0, ?_, ?_, prot_holds_ok ha, Nat.le_trans (factsOf_length _) hl.1, by simp, by simp⟩
   ·unfold protest_Proves.f provesOf; rw [ha]; simp [hn]
   ·unfold protest_Why.f whyOf; rw [ha]; simp [hn]
  have hW : ∃ ws f, protest_Why.f l0 a1 l2 a4 = some (ws, f) ∧ (f = 0 ↔ a4 ∈ factsOf (heldOf (l0.map toC) l2 o)) := by
   by_cases hc : a4 ∈ heldOf (l0.map toC) l2 o
   ·exact ⟨_, _, prot_why_ok ha hn hc, by simp [mem_factsOf, hc]⟩
   ·refine ⟨[], 7, ?_, by simp [mem_factsOf, hc]⟩
    unfold protest_Why.f whyOf; rw [ha]; simp [hn, hh, hc]
  obtain ⟨ws, f, hw1, hw2⟩ := hW
  by_cases hi : indexB l0.length l3 = true
  case neg =>
   refine ⟨false, -1, 4, ws, f, _, 0, ?_, hw1, prot_holds_ok ha, Nat.le_trans (factsOf_length _) hl.1, by simp, by simp⟩
   unfold protest_Proves.f provesOf; rw [ha]; simp [hn, hi]
  obtain ⟨i1, i2⟩ := ints_toNat hi
  have hP := prot_proves_ok ha hn (l := l3.map Int.toNat) i2
  rw [i1] at hP
  refine ⟨_, _, 0, ws, f, _, 0, hP, hw1, prot_holds_ok ha, Nat.le_trans (factsOf_length _) hl.1, by simp, fun _ => ⟨rfl, hw2, fun h => hw2.2 (mem_factsOf.2 ?_)⟩⟩
  have := Prot.proveL_sound M.closed (l3.map Int.toNat) l2 0 (fun i h => by rw [List.length_map]; exact i2 i h) (fun x hx => Prot.mem_heldOf.2 (.inl hx)) a4
  unfold isProof at h
  simp only [Bool.and_eq_true, List.contains_iff_mem] at h
  exact this h.2
set_option maxRecDepth 100000 in
set_option maxHeartbeats 4000000 in
theorem sound_calls (A0 : Option Addr) (c0 : Nat) (l0 : List S25) (a1 : Int) (A2 : Option Addr) (c2 : Nat) (l2 : List ByteArray) (A3 : Option Addr) (c3 : Nat) (l3 : List Int) (a4 : ByteArray) (w : World) (hr0 : Kd.C k25 w A0 l0.length l0) (hc0 : l0.length ≤ c0) (hr2 : Kd.C Kd.string w A2 l2.length l2) (hc2 : l2.length ≤ c2) (hr3 : Kd.C (Kd.int .i64) w A3 l3.length l3) (hc3 : l3.length ≤ c3) :
  Calls Tryz.prog 9 #[.slice A0 l0.length c0, .int .i64 a1, .slice A2 l2.length c2, .slice A3 l3.length c3, .string a4] w fun e w' => e = .returned (.bool true) ∧ Below w.heap.size w w' := by
 have H0 := Aside0.mk hr0
 have H2 := Aside0.mk hr2
 have H3 := Aside0.mk hr3
 have S := Aside0.mk (sound_plain l0 a1 l2 l3 a4)
 clear hr0 hr2 hr3
 refine callsK (args := [.slice A0 l0.length c0, .int .i64 a1, .slice A2 l2.length c2, .slice A3 l3.length c3, .string a4]) Tryz.func9 rfl Tryz.ntmps9 (by simp) fun a HF => ?_
 replace HF : Fr 85 [] [(0, .slice A0 l0.length c0), (1, .int .i64 a1), (2, .slice A2 l2.length c2), (3, .slice A3 l3.length c3), (4, .string a4)] a := HF
 refine wpIn_seq (wpIn_region_k (fun _ => trivial) rfl wideC HF fun K hK => ?_)
 repeat (refine OpsK.step rfl rfl rfl ?_; go_simp)
 refine fin hK [(0, .slice A0 l0.length c0), (1, .int .i64 a1), (2, .slice A2 l2.length c2), (3, .slice A3 l3.length c3), (4, .string a4)] ⟨rfl, rfl, rfl, rfl, rfl, trivial⟩ fun a HF => ?_
 clear hK K
 refine wpIn_seq (wpIn_seq (wpIn_region_k (fun _ => trivial) rfl wideC HF fun K hK => ?_))
 have HK : ∀ (d : Bool) (l : Slots) (W : World), Sub l [(0, .slice A0 l0.length c0), (1, .int .i64 a1), (2, .slice A2 l2.length c2), (3, .slice A3 l3.length c3), (4, .string a4), (30, .bool d)] → Below w.heap.size w W → K l W := by
  intro d l W hs hb
  refine hK _ _ fun a hf => ?_
  have HF := hf.sub hs
  have HB := Aside0.mk hb
  clear hK K hf hs hb
  simp only [Exit.then, Exit.inBlock, ↓reduceIte]
  refine wpIn_cond (HF.tmp rfl) ?_
  cases d
  ·refine wpIn_skip ?_
   simp only [Exit.then, Exit.inBlock, ↓reduceIte]
   obtain ⟨is, n, e, ws, f, hs, g, s1, s2, s3, s4, s5, s6⟩ := S.out
   have T1 := Aside0.mk s1
   have T2 := Aside0.mk s2
   have T3 := Aside0.mk s3
   have T5 := Aside0.mk s5
   have T6 := Aside0.mk s6
   clear s1 s2 s3 s5 s6 S
   refine wpIn_seq (wpIn_region_k (fun _ => trivial) rfl wideC HF fun K hK => ?_)
   repeat (refine OpsK.step rfl rfl rfl ?_; go_simp)
   refine (protest_Proves.calls A0 c0 l0 a1 A2 c2 l2 A3 c3 l3 a4 is n e W (Kd.C_below H0.out HB.out) hc0 (Kd.C_below H2.out HB.out) hc2 (Kd.C_below H3.out HB.out) hc3 T1.out).mono ?_
   rintro _ W1 ⟨rfl, hb⟩
   have HB1 := Aside0.mk (bt HB.out hb)
   clear hb HB
   dsimp only
   repeat (refine OpsK.step rfl rfl rfl ?_; go_simp)
   refine fin hK [(0, .slice A0 l0.length c0), (1, .int .i64 a1), (2, .slice A2 l2.length c2), (4, .string a4), (11, .bool is), (13, .int .i64 e)] ⟨rfl, rfl, rfl, rfl, rfl, rfl, trivial⟩ fun a HF => ?_
   clear hK K
   refine wpIn_seq (wpIn_region_k (fun _ => trivial) rfl wideC HF fun K hK => ?_)
   repeat (refine OpsK.step rfl rfl rfl ?_; go_simp)
   refine (protest_Why.calls A0 c0 l0 a1 A2 c2 l2 a4 ws f W1 (Kd.C_below H0.out HB1.out) hc0 (Kd.C_below H2.out HB1.out) hc2 T2.out).mono ?_
   rintro _ W2 ⟨v, rfl, -, hb⟩
   have HB2 := Aside0.mk (bt HB1.out hb)
   clear hb HB1
   dsimp only
   repeat (refine OpsK.step rfl rfl rfl ?_; go_simp)
   refine fin hK [(0, .slice A0 l0.length c0), (1, .int .i64 a1), (2, .slice A2 l2.length c2), (4, .string a4), (11, .bool is), (13, .int .i64 e), (15, .int .i64 f)] ⟨rfl, rfl, rfl, rfl, rfl, rfl, rfl, trivial⟩ fun a HF => ?_
   clear hK K
   refine wpIn_seq (wpIn_region_k (fun _ => trivial) rfl wideC HF fun K hK => ?_)
   repeat (refine OpsK.step rfl rfl rfl ?_; go_simp)
   refine (protest_Holds.calls A0 c0 l0 a1 A2 c2 l2 hs g W2 (Kd.C_below H0.out HB2.out) hc0 (Kd.C_below H2.out HB2.out) hc2 T3.out).mono ?_
   rintro _ W3 ⟨v, rfl, hR, hb⟩
   have HB3 := Aside0.mk (bt HB2.out hb)
   obtain ⟨Al, cl, rfl⟩ := Kd.R_slice hR
   have HL := Aside0.mk (Kd.R_reads' hR).2
   clear hb HB2 hR
   dsimp only
   repeat (refine OpsK.step rfl rfl rfl ?_; go_simp)
   refine fin hK [(4, .string a4), (11, .bool is), (13, .int .i64 e), (15, .int .i64 f), (16, .slice Al hs.length cl), (17, .int .i64 g)] ⟨rfl, rfl, rfl, rfl, rfl, rfl, trivial⟩ fun a HF => ?_
   clear hK K
   refine wpIn_seq (wpIn_seq (wpIn_region_k (fun _ => trivial) rfl wideC HF fun K hK => ?_))
   by_cases he : e = 0
   ·obtain ⟨rfl, hf, hi⟩ := T6.out he
    have HE := Aside0.mk hf
    subst he
    clear T1 T2 T3 T5 T6 hf
    repeat (refine OpsK.step rfl rfl rfl ?_; go_simp)
    refine fin hK [(4, .string a4), (11, .bool is), (15, .int .i64 f), (16, .slice Al hs.length cl), (17, .int .i64 0), (58, .bool false)] ⟨rfl, rfl, rfl, rfl, rfl, rfl, trivial⟩ fun a HF => ?_
    clear hK K
    refine wpIn_cond_false (HF.tmp rfl) (wpIn_skip ?_)
    refine wpIn_seq (wpIn_region_k (fun _ => trivial) rfl wideC HF fun K hK => ?_)
    repeat (refine OpsK.step rfl rfl rfl ?_; go_simp)
    refine (besomref09_Has.calls 200 Al cl hs a4 (decide (a4 ∈ hs)) W3 HL.out.2 HL.out.1 (Has_eq _ _ _ (by omega) (by omega))).mono ?_
    rintro _ W4 ⟨rfl, hd⟩
    have HB4 := Aside0.mk (bd HB3.out hd)
    clear hd HB3
    have hq : ((f == 0) == decide (a4 ∈ hs)) = true := by
     by_cases hz : f = 0
     ·have := HE.out.1 hz; simp [hz, this]
     ·have : ¬ a4 ∈ hs := fun h => hz (HE.out.2 h); simp [hz, this]
    dsimp only
    repeat (refine OpsK.step rfl rfl rfl ?_; go_simp)
    all_goals cases is
    all_goals try obtain rfl := hi rfl
    all_goals repeat (first | (refine OpsK.step rfl rfl rfl ?_; go_simp) | refine OpsK.skip rfl rfl ?_)
    all_goals
     refine (awake_true W4).mono ?_
     rintro _ W5 ⟨rfl, hb⟩
     have HB5 := Aside0.mk (bt HB4.out hb)
     clear hb HB4
     dsimp only
     repeat (refine OpsK.step rfl rfl rfl ?_; go_simp)
     refine fin hK [(10, .bool true)] ⟨rfl, trivial⟩ fun a HF => ?_
     exact wpIn_ret (HF.ret1 rfl rfl ⟨rfl, HB5.out⟩)
   ·obtain rfl := T5.out he
    have e1 : (e != 0) = true := by simp [he]
    have e2 : (e == 0) = false := by simp [he]
    clear T1 T2 T3 T5 T6 he
    repeat (refine OpsK.step rfl rfl rfl ?_; go_simp)
    refine fin hK [(11, .bool false), (58, .bool true)] ⟨rfl, rfl, trivial⟩ fun a HF => ?_
    clear hK K
    refine wpIn_cond_true (HF.tmp rfl) ?_
    refine wpIn_seq (wpIn_region_k (fun _ => trivial) rfl wideC HF fun K hK => ?_)
    repeat (refine OpsK.step rfl rfl rfl ?_; go_simp)
    refine (awake_true W3).mono ?_
    rintro _ W5 ⟨rfl, hb⟩
    have HB5 := Aside0.mk (bt HB3.out hb)
    clear hb HB3
    dsimp only
    repeat (refine OpsK.step rfl rfl rfl ?_; go_simp)
    refine fin hK [(10, .bool true)] ⟨rfl, trivial⟩ fun a HF => ?_
    refine wpIn_ret ?_
    simp only [Exit.then, ↓reduceIte]
    exact HF.ret1 rfl rfl ⟨rfl, HB5.out⟩
  ·refine wpIn_seq (wpIn_region_k (fun _ => trivial) rfl wideC HF fun K hK => ?_)
   repeat (refine OpsK.step rfl rfl rfl ?_; go_simp)
   refine (awake_true W).mono ?_
   rintro _ W5 ⟨rfl, hb⟩
   have HB5 := Aside0.mk (bt HB.out hb)
   clear hb HB
   dsimp only
   repeat (refine OpsK.step rfl rfl rfl ?_; go_simp)
   refine fin hK [(10, .bool true)] ⟨rfl, trivial⟩ fun a HF => ?_
   refine wpIn_ret ?_
   simp only [Exit.then, ↓reduceIte]
   exact HF.ret1 rfl rfl ⟨rfl, HB5.out⟩
 clear hK
 repeat (refine OpsK.step rfl rfl rfl ?_; go_simp)
 refine (great_call A0 c0 l0 A2 c2 l2 w H0.out hc0 H2.out hc2).mono ?_
 rintro _ W ⟨b, rfl, -, hb⟩
 have HB := Aside0.mk hb
 clear hb
 dsimp only
 cases b
 ·repeat (refine OpsK.step rfl rfl rfl ?_; go_simp)
  cases hz : decide (100 < ((a4.size : Nat) : Int))
  all_goals repeat (first | (refine OpsK.step rfl rfl rfl ?_; go_simp) | refine OpsK.skip rfl rfl ?_)
  all_goals exact HK _ _ _ ⟨rfl, rfl, rfl, rfl, rfl, rfl, trivial⟩ HB.out
 ·repeat (first | (refine OpsK.step rfl rfl rfl ?_; go_simp) | refine OpsK.skip rfl rfl ?_)
  exact HK true _ _ ⟨rfl, rfl, rfl, rfl, rfl, rfl, trivial⟩ HB.out
end
section
section
variable {H : Type} {enc : TypeId × Value → H} {w : World} {base : Nat} {spare : Nat → Bool} {held : Bool} {fuel : Nat} {cs : List Value} {x : DataW H × List MemPlace}
theorem open_S {t : TypeId} (ht : Tryz.prog.underlying t = some (.slice 9)) (h : DataW.trod enc Tryz.prog w base spare held fuel t cs = some x) : ∃ A l c, cs = [.slice A (l : List ByteArray).length c] ∧ l.length ≤ c ∧ Kd.C Kd.string w A l.length l := by
 rcases Go.Deep.open_strs ht Tryz.underlying9 (by kernel_rfl) h with ⟨rfl, _⟩ | ⟨a, len, cap, m, Sx, rfl, _, hl, hm, hmm, _, hc⟩
 ·exact ⟨none, [], 0, rfl, Nat.le_refl _, rfl, by decide, fun h => absurd h (by decide)⟩
 ·have hlm : len ≤ m := by rw [hmm]; split <;> omega
  refine ⟨some a, (List.range len).map Sx, cap, by simp, by simpa using hl, rfl, by simp only [List.length_map, List.length_range, maxLen] at *; omega, fun _ => ⟨a, rfl, fun j p hj => ⟨[.string p], rfl, rfl, fun i u hu => ?_⟩⟩⟩
  obtain ⟨hjl, rfl⟩ : j < len ∧ p = Sx j := by
   rw [List.getElem?_map] at hj
   obtain ⟨q, hq, rfl⟩ := Option.map_eq_some_iff.1 hj
   obtain ⟨h1, h2⟩ := List.getElem?_eq_some_iff.1 hq
   simp only [List.length_range] at h1
   rw [List.getElem_range] at h2
   subst h2
   exact ⟨h1, rfl⟩
  cases i with
  | succ n => simp at hu
  | zero =>
   simp at hu
   subst hu
   show w.cell? (a.add (j * 1 + 0)) = _
   rw [Nat.mul_one, Nat.add_zero]
   exact (hc j (by omega)).1
theorem open_I {t : TypeId} (ht : Tryz.prog.underlying t = some (.slice 3)) (h : DataW.trod enc Tryz.prog w base spare held fuel t cs = some x) : ∃ A l c, cs = [.slice A (l : List Int).length c] ∧ l.length ≤ c ∧ Kd.C (Kd.int .i64) w A l.length l := by
 rcases Go.ChangeShapes.open_ints ht Tryz.underlying3 (by kernel_rfl) h with ⟨rfl, _⟩ | ⟨a, len, cap, zs, rfl, _, hl, hm, hz, _, hc, _⟩
 ·exact ⟨none, [], 0, rfl, Nat.le_refl _, rfl, by decide, fun h => absurd h (by decide)⟩
 ·have hlm : len ≤ zs.length := by rw [hz]; split <;> omega
  have htl : (zs.take len).length = len := by simp; omega
  refine ⟨some a, zs.take len, cap, by rw [htl], by rw [htl]; exact hl, rfl, by rw [htl]; simp only [maxLen] at hm; omega, fun _ => ⟨a, rfl, fun j p hj => ⟨[.int .i64 p], rfl, rfl, fun i u hu => ?_⟩⟩⟩
  obtain ⟨hjl, hp⟩ := List.getElem?_eq_some_iff.1 hj
  rw [htl] at hjl
  cases i with
  | succ n => simp at hu
  | zero =>
   simp at hu
   subst hu
   show w.cell? (a.add (j * 1 + 0)) = _
   rw [Nat.mul_one, Nat.add_zero, hc j (by omega), ← hp]
   simp [List.getD_eq_getElem?_getD, List.getElem?_eq_getElem (show j < zs.length by omega)]
set_option maxRecDepth 100000 in
theorem open_cl (h : DataW.trod enc Tryz.prog w base spare held fuel 25 cs = some x) : ∃ y : S25, k25.K w y cs := by
 obtain ⟨xs, n, _, _, hl, hlen, hf⟩ := DataW.trod_struct Tryz.underlying25 h
 have hl6 : cs.length = 6 := hl.trans (by kernel_rfl)
 have e9 : Tryz.prog.cellsOf 9 = 1 := by kernel_rfl
 have e3 : Tryz.prog.cellsOf 3 = 1 := by kernel_rfl
 have e23 : Tryz.prog.cellsOf 23 = 1 := by kernel_rfl
 have hx6 : xs.length = 6 := hlen
 match cs, hl6 with
 | [v0, v1, v2, v3, v4, v5], _ =>
  match xs, hx6 with
  | [y0, y1, y2, y3, y4, y5], _ =>
   have f0 := hf 0 _ rfl
   have f1 := hf 1 _ rfl
   have f2 := hf 2 _ rfl
   have f3 := hf 3 _ rfl
   have f4 := hf 4 _ rfl
   have f5 := hf 5 _ rfl
   simp only [e9, e3, e23, List.drop_zero, List.drop_succ_cons, List.take_succ_cons, List.take_zero, List.getElem?_cons_zero, List.getElem?_cons_succ] at f0 f1 f2 f3 f4 f5
   obtain ⟨s0, g0, _⟩ := DataW.trod_string Tryz.underlying9 f0
   obtain ⟨n1, g1, _⟩ := DataW.trod_int Tryz.underlying3 f1
   obtain ⟨n2, g2, _⟩ := DataW.trod_int Tryz.underlying3 f2
   obtain ⟨A3, l3, c3, g3, h3, q3⟩ := open_S Tryz.underlying23 f3
   obtain ⟨A4, l4, c4, g4, h4, q4⟩ := open_S Tryz.underlying23 f4
   obtain ⟨s5, g5, _⟩ := DataW.trod_string Tryz.underlying9 f5
   cases g0; cases g1; cases g2; cases g3; cases g4; cases g5
   exact ⟨⟨s0, n1, n2, l3, l4, s5⟩, k25_mk w ⟨s0, n1, n2, l3, l4, s5⟩ h3 q3 h4 q4⟩
theorem open_book {t : TypeId} (ht : Tryz.prog.underlying t = some (.slice 25)) (h : DataW.trod enc Tryz.prog w base spare held fuel t cs = some x) : ∃ A l c, cs = [.slice A (l : List S25).length c] ∧ l.length ≤ c ∧ Kd.C k25 w A l.length l := by
 rcases Go.Deep.open_slice ht h with ⟨rfl, _⟩ | ⟨a, len, cap, m, n, D, Pl, rfl, _, hl, hm, hmm, _, hc⟩
 ·exact ⟨none, [], 0, rfl, Nat.le_refl _, rfl, by decide, fun h => absurd h (by decide)⟩
 ·have hlm : len ≤ m := by rw [hmm]; split <;> omega
  have e25 : Tryz.prog.cellsOf 25 = 6 := by kernel_rfl
  have each : ∀ i, i < m → ∃ y : S25, ∃ cs', cs'.length = 6 ∧ k25.K w y cs' ∧ ∀ j, j < 6 → w.cell? ((a.add (i * 6)).add j) = cs'[j]? := fun i hi => by
   obtain ⟨cs', h1, h2⟩ := hc i hi
   rw [e25] at h1
   obtain ⟨_, h3, h4⟩ := World.cells?_some h1
   obtain ⟨y, hy⟩ := open_cl h2
   exact ⟨y, cs', h3, hy, h4⟩
  have : ∃ Y : Nat → S25, ∀ i, i < m → ∃ cs', cs'.length = 6 ∧ k25.K w (Y i) cs' ∧ ∀ j, j < 6 → w.cell? ((a.add (i * 6)).add j) = cs'[j]? := by
   refine ⟨fun i => if h : i < m then (each i h).choose else z25, fun i hi => ?_⟩
   simp only [hi, dif_pos]
   exact (each i hi).choose_spec
  obtain ⟨Y, hY⟩ := this
  refine ⟨some a, (List.range len).map Y, cap, by simp, by simpa using hl, rfl, by simp only [List.length_map, List.length_range, maxLen] at *; omega, fun _ => ⟨a, rfl, fun j p hj => ?_⟩⟩
  obtain ⟨hjl, rfl⟩ : j < len ∧ p = Y j := by
   rw [List.getElem?_map] at hj
   obtain ⟨q, hq, rfl⟩ := Option.map_eq_some_iff.1 hj
   obtain ⟨h1, h2⟩ := List.getElem?_eq_some_iff.1 hq
   simp only [List.length_range] at h1
   rw [List.getElem_range] at h2
   subst h2
   exact ⟨h1, rfl⟩
  obtain ⟨cs', h1, h2, h3⟩ := hY j (by omega)
  refine ⟨cs', h1, h2, fun i u hu => ?_⟩
  have hi6 : i < 6 := by have := (List.getElem?_eq_some_iff.1 hu).1; omega
  have := h3 i hi6
  rw [hu] at this
  rw [← this]
  show w.cell? (a.add (j * 6 + i)) = w.cell? ((a.add (j * 6)).add i)
  rw [Go.Addr.add_add]
end
end
end Go.Proofs.YtlhkeohcickiaaaGreatDoor.E
namespace Go.Proofs.YtlhkeohcickiaaaGreatDoor.protestSound
open Go.ChangeShapes Go.WideShapes Go.ChangeAt Go.RowKit Go.Proofs.YtlhkeohcickiaaaGreatDoor.E Go.Proofs.YtlhkeohcickiaaaGreatDoorW.PrintWords Go.Proofs.YtlhkeohcickiaaaGreatDoorW.PrintLast Go.Proofs.YtlhkeohcickiaaaGreatDoorW.PrintMore
open Go.ChangeMaps (open_string shut_string)
theorem own : ownKnob Tryz.prog.godebug = none := by kernel_rfl
theorem laidOut : laidOutB Tryz.prog = true := by kernel_rfl
set_option maxRecDepth 100000 in
theorem lifted (os : Os) (started : os.Started) (H : Type) (enc : TypeId × Value → H) :
  ReturnsInHanded {} Tryz.checked os 9 .any (fun w args => (Rows.protestSoundSpec.pre enc Tryz.prog Tryz.f9 Rows.protestSoundRow.domain false w args ∧ laidMetH Tryz.prog Rows.protestSoundRow.laid w) ∧ sizedMet enc Tryz.prog Tryz.f9 (OpenSpec.ofChange Rows.protestSoundSpec) false w args)
   (Rows.protestSoundSpec.post enc Tryz.prog Tryz.f9 false true false false) := by
 refine returnsInHanded_of_change_and (C := Tryz.checked) (X := fun w _ => laidMetH Tryz.prog Rows.protestSoundRow.laid w) (fun _ _ _ hh h => h.of_heap hh) own started (by kernel_rfl) Tryz.func9
  (ChangeSpec.witness_shaped (enc := enc) (C := Tryz.checked) (os := os) (X := fun w _ => laidMetH Tryz.prog Rows.protestSoundRow.laid w) false (World.laidAll Tryz.prog os Rows.protestSoundRow.laid) #[.slice none 0 0, .int .i64 0, .slice none 0 0, .slice none 0 0, .string ByteArray.empty] 8 (World.laidAll_os _ _ _)
   (World.shaped_of_ZipB (by kernel_rfl) (by kernel_rfl)) (by kernel_rfl) (by kernel_rfl) (by kernel_rfl)
   (by rw [MakeChecks.laidMetH_plain _ _ _ (by kernel_rfl)]; exact laidMet_laidAll _ (by kernel_rfl) (by kernel_rfl))) ?_
 intro W base args ds gs before hval0 hW hc _ hL _
 have hval : ∀ (j : Nat) t v, Tryz.f9.params[j]? = some t → args[j]? = some v → Value.okWide Tryz.prog W .any base t v := hval0
 have hW' := hW
 obtain ⟨p, q, hA0, hV, rfl, hfz, hnd⟩ := hW
 have hA : DataW.TrodAll enc Tryz.prog W 0 (fun _ => true) true Tryz.f9.params.toList args.toList ds p := hA0
 rw [Tryz.params9] at hA hval
 obtain ⟨v0, vs0, d0, ds0, p0, q0, hargs, rfl, rfl, h0, r0⟩ := trodAll_cons hA
 obtain ⟨v1, vs1, d1, ds1, p1, q1, rfl, rfl, rfl, h1, r1⟩ := trodAll_cons r0
 obtain ⟨v2, vs2, d2, ds2, p2, q2, rfl, rfl, rfl, h2, r2⟩ := trodAll_cons r1
 obtain ⟨v3, vs3, d3, ds3, p3, q3, rfl, rfl, rfl, h3, r3⟩ := trodAll_cons r2
 obtain ⟨v4, vs4, d4, ds4, p4, q4, rfl, rfl, rfl, h4, r4⟩ := trodAll_cons r3
 obtain ⟨rfl, rfl, rfl⟩ := trodAll_nil r4
 obtain rfl : args = #[v0, v1, v2, v3, v4] := by cases args; simp_all
 obtain ⟨rfl, rfl⟩ := trodVars_none hV
 obtain ⟨a0, len0, cap0, rfl⟩ := okWide_slice Tryz.underlying22 (hval 0 22 v0 rfl rfl)
 have k0 := h0
 have lt0 : ∀ x ∈ p0, x.block < W.heap.size := by obtain ⟨m, hm⟩ := k0; exact DataW.trod_lt m _ _ _ hm
 obtain ⟨l0, e0, c0, w0⟩ : ∃ l : List S25, len0 = l.length ∧ l.length ≤ cap0 ∧ Kd.C k25 W a0 l.length l := by
  obtain ⟨fuel, hf⟩ := h0
  obtain ⟨A, l, c, hcs, hl, hC⟩ := open_book Tryz.underlying22 hf
  simp [Value.cells] at hcs
  obtain ⟨rfl, rfl, rfl⟩ := hcs
  exact ⟨l, rfl, hl, hC⟩
 subst e0
 obtain ⟨a1, rfl, rfl, rfl, w1⟩ := open_int Tryz.underlying3 (hval 1 3 v1 rfl rfl) h1
 obtain ⟨a2, len2, cap2, rfl⟩ := okWide_slice Tryz.underlying23 (hval 2 23 v2 rfl rfl)
 have k2 := h2
 have lt2 : ∀ x ∈ p2, x.block < W.heap.size := by obtain ⟨m, hm⟩ := k2; exact DataW.trod_lt m _ _ _ hm
 obtain ⟨l2, e2, c2, w2⟩ : ∃ l : List ByteArray, len2 = l.length ∧ l.length ≤ cap2 ∧ Kd.C Kd.string W a2 l.length l := by
  obtain ⟨fuel, hf⟩ := h2
  obtain ⟨A, l, c, hcs, hl, hC⟩ := open_S Tryz.underlying23 hf
  simp [Value.cells] at hcs
  obtain ⟨rfl, rfl, rfl⟩ := hcs
  exact ⟨l, rfl, hl, hC⟩
 subst e2
 obtain ⟨a3, len3, cap3, rfl⟩ := okWide_slice Tryz.underlying37 (hval 3 37 v3 rfl rfl)
 have k3 := h3
 have lt3 : ∀ x ∈ p3, x.block < W.heap.size := by obtain ⟨m, hm⟩ := k3; exact DataW.trod_lt m _ _ _ hm
 obtain ⟨l3, e3, c3, w3⟩ : ∃ l : List Int, len3 = l.length ∧ l.length ≤ cap3 ∧ Kd.C (Kd.int .i64) W a3 l.length l := by
  obtain ⟨fuel, hf⟩ := h3
  obtain ⟨A, l, c, hcs, hl, hC⟩ := open_I Tryz.underlying37 hf
  simp [Value.cells] at hcs
  obtain ⟨rfl, rfl, rfl⟩ := hcs
  exact ⟨l, rfl, hl, hC⟩
 subst e3
 obtain ⟨a4, rfl, rfl, rfl, y4⟩ := open_string Tryz.underlying9 (hval 4 9 v4 rfl rfl) h4
 clear hA0 hval0
 refine (sound_calls a0 cap0 l0 a1 a2 cap2 l2 a3 cap3 l3 a4 W w0 c0 w2 c2 w3 c3).mono fun e W' ⟨he, bel⟩ => ?_
 subst he
 exact ⟨_, rfl, _, _, _, [], _, [], hW', trodAll_mk1 (shut_bool Tryz.underlying4 _), (trodAll_cons_mk (Below.trod laidOut (by kernel_rfl) (of_decide_eq_true (by kernel_rfl)) k0 bel lt0) (trodAll_cons_mk (shut_int Tryz.underlying3 w1) (trodAll_cons_mk (Below.trod laidOut (by kernel_rfl) (of_decide_eq_true (by kernel_rfl)) k2 bel lt2) (trodAll_cons_mk (Below.trod laidOut (by kernel_rfl) (of_decide_eq_true (by kernel_rfl)) k3 bel lt3) (trodAll_cons_mk (shut_string Tryz.underlying9 y4) trodAll_mk0))))), rfl, bel.frame _, fun h => by cases h⟩
theorem over : Rows.protestSoundRow.holds Tryz.pinned (OpenSpec.ofChange Rows.protestSoundSpec) :=
 OpenClaim.holds_of_wide 9 Tryz.f9 rfl rfl rfl rfl rfl rfl rfl ⟨rfl, rfl, rfl, rfl, rfl⟩ rfl rfl rfl rfl rfl (by kernel_rfl) Tryz.func9 (by kernel_rfl)
  (of_decide_eq_true (by kernel_rfl)) (by unfold Func.isWrapper; first | (rw [if_pos (by decide +kernel)]; kernel_rfl) | (rw [if_neg (by decide +kernel)]; exact ⟨rfl, rfl⟩))
  (fun os started H enc _ => lifted os started H enc)
theorem proved : Rows.ProtestSoundSaid := over
theorem carded : Rows.ProtestSoundCardSaid :=
 Claim7.holds_tied_plain_at .later [] [.data, .pinned] true (true, "98843cd4e3891271ebdf8b02a3300920f08920e848e48566e9e63e5fe3d60fc8") true proved (fun _ h => by cases h) (by kernel_rfl) (fun _ h => by cases h) protestSound_row_tie rfl ⟨rfl, rfl⟩ (by kernel_rfl) rfl
  (fun f fn hf hfn => by
   obtain rfl : f = 9 := Option.some.inj ((show Tryz.prog.funcNamed "besom/besomlaw09.ProtestSound" = some 9 by kernel_rfl).symm.trans hf) |>.symm
   obtain rfl : fn = Tryz.f9 := (Option.some.inj (Tryz.func9.symm.trans hfn)).symm
   exact ⟨by kernel_rfl, fun j t ht => by
    rw [Tryz.params9] at ht
    have hm : t ∈ [22, 3, 23, 37, 9] := by simpa using Array.mem_of_getElem? ht
    have hall : ([22, 3, 23, 37, 9].all fun u => !Tryz.prog.wantsStandIn u) = true := by kernel_rfl
    exact (show Tryz.prog.wantsStandIn t = false by simpa using List.all_eq_true.1 hall t hm)⟩)
  (by kernel_rfl)
end Go.Proofs.YtlhkeohcickiaaaGreatDoor.protestSound
namespace Go.Proofs.YtlhkeohcickiaaaGreatDoor
theorem protestSound_card : Rows.ProtestSoundCardSaid := protestSound.carded
end Go.Proofs.YtlhkeohcickiaaaGreatDoor

