/- The card of ProtestHolds (without conditions), last part. -/
import Derived.Test.YtlhkeohcickiaaaGreatDoorKH37
import Derived.Test.YtlhkeohcickiaaaGreatDoorKH15
import Derived.Test.YtlhkeohcickiaaaGreatDoorKH17
import Derived.Test.YtlhkeohcickiaaaGreatDoorKH26
import Derived.Test.YtlhkeohcickiaaaGreatDoorKH33
import Derived.Test.YtlhkeohcickiaaaGreatDoorKH31
import Derived.Test.YtlhkeohcickiaaaGreatDoorKH29
import Derived.Test.YtlhkeohcickiaaaGreatDoorKH30
import Derived.Test.YtlhkeohcickiaaaGreatDoorKH28
import Derived.Deep.Slices
import Derived.Deep.Strs
import Derived.ChangeSlices
import Derived.DataElems
import Derived.OpenShut
import Derived.Test.YtlhkeohcickiaaaGreatDoorRows
import Derived.Test.YtlhkeohcickiaaaGreatDoorTie
import Derived.Test.YtlhkeohcickiaaaGreatDoorCards
import Derived.WalkKit
import Derived.ProofKit
import Derived.ShutString
import Derived.ChangeOld
import Derived.Below
import Derived.SizedLaws
import Derived.SevenTiedAt
import Derived.LaidMore
import Derived.Lay
import Derived.Stop.Joined
set_option linter.all false
namespace Go.Proofs.YtlhkeohcickiaaaGreatDoor.E
open Go.RowKit Go.Proofs.YtlhkeohcickiaaaGreatDoor.H Go.Proofs.YtlhkeohcickiaaaGreatDoorW.PrintWords Go.Proofs.YtlhkeohcickiaaaGreatDoorW.PrintLast Go.Proofs.YtlhkeohcickiaaaGreatDoorW.PrintMore
section
open Prot (heldOf derive proveL at_ stepOk thens)
theorem prot_holds_ok {l0 : List S25} {ed : Int} {facts : List ByteArray} {m : List (ByteArray × Nat)} {o : List Nat} (h : askedOf l0 ed facts = .ok (m, o)) : protest_Holds.f l0 ed facts = some (factsOf (heldOf (l0.map toC) facts o), 0) := by
 unfold protest_Holds.f holdsOf
 rw [h]
theorem prot_holds_err {l0 : List S25} {ed : Int} {facts : List ByteArray} {p : Int × Int} (h : askedOf l0 ed facts = .error p) : protest_Holds.f l0 ed facts = some ([], p.2) := by
 unfold protest_Holds.f holdsOf
 rw [h]
end
section
open Prot (heldOf derive proveL at_ stepOk thens)
theorem ref_holds (l0 : List S25) (ed : Int) (facts : List ByteArray) (k : Nat) (hf : facts.length ≤ 70) (hk : 5000000 ≤ k) : ∃ h e, protest_Holds.f l0 ed facts = some (h, e) ∧ besomref09_Holds.f k l0 ed facts = some (h, e) ∧ h.length ≤ 128 := by
 unfold besomref09_Holds.f
 rw [asked_eq l0 ed facts k (by omega) (by omega), Option.bind_some]
 unfold askedErr
 cases ha : askedOf l0 ed facts with
 | error p =>
  refine ⟨[], p.2, prot_holds_err ha, ?_, by simp⟩
  simp only [asked_err ha, if_false]
 | ok mo =>
  obtain ⟨m, o⟩ := mo
  have hl := held_length ha
  refine ⟨_, 0, prot_holds_ok ha, ?_, Nat.le_trans (factsOf_length _) hl.1⟩
  simp only [if_true, make1_eq ha, Option.bind_some]
  rw [Rising_eq _ _ (by omega) (by omega), Option.bind_some]
end
section
attribute [local go_sem] slk sget sput uponK_value uponK_skip uponK_enter
theorem less_same (a b : List ByteArray) : (a.filter fun s => !decide (s ∈ b)) = lessOf a b := by
 unfold lessOf
 refine List.filter_congr fun x _ => ?_
 rw [has_setOf]
theorem ref_changed (l0 : List S25) (a b : Int) (l2 : List ByteArray) (k : Nat) (hf : l2.length ≤ 70) (hk : 5000000 ≤ k) : ∃ x y e, protest_Changed.f l0 a b l2 = some (x, y, e) ∧ besomref09_Changed.f k l0 a b l2 = some (x, y, e) ∧ x.length ≤ 128 ∧ y.length ≤ 128 := by
 obtain ⟨h, e, p1, p2, p3⟩ := ref_holds l0 a l2 k hf hk
 obtain ⟨g, f, q1, q2, q3⟩ := ref_holds l0 b l2 k hf hk
 unfold protest_Holds.f at p1 q1
 unfold besomref09_Changed.f protest_Changed.f changedOf
 rw [p2, q2, Option.bind_some, Option.bind_some]
 cases ha : holdsOf l0 a l2 with
 | error p =>
  rw [ha] at p1
  obtain ⟨rfl, rfl⟩ : [] = h ∧ p.2 = e := by simpa using p1
  have : p.2 ≠ 0 := by
   unfold holdsOf at ha
   split at ha
   ·rename_i q hq; cases ha; exact asked_err hq
   ·cases ha
  exact ⟨_, _, _, rfl, by simp only [this, if_false], by simp, by simp⟩
 | ok x =>
  rw [ha] at p1
  obtain ⟨rfl, rfl⟩ : x = h ∧ 0 = e := by simpa using p1
  cases hb : holdsOf l0 b l2 with
  | error p =>
   rw [hb] at q1
   obtain ⟨rfl, rfl⟩ : [] = g ∧ p.2 = f := by simpa using q1
   have : p.2 ≠ 0 := by
    unfold holdsOf at hb
    split at hb
    ·rename_i q hq; cases hb; exact asked_err hq
    ·cases hb
   exact ⟨_, _, _, rfl, by simp only [this, if_false, if_true], by simp, by simp⟩
  | ok y =>
   rw [hb] at q1
   obtain ⟨rfl, rfl⟩ : y = g ∧ 0 = f := by simpa using q1
   refine ⟨_, _, _, rfl, ?_, Nat.le_trans (List.length_filter_le _ _) p3, Nat.le_trans (List.length_filter_le _ _) q3⟩
   simp only [if_true]
   rw [Less_eq _ _ _ (by omega) (by omega) (by omega), Option.bind_some, Less_eq _ _ _ (by omega) (by omega) (by omega), Option.bind_some, less_same, less_same]
theorem Ints_loop (l : List Int) (hz : l.length ≤ 9223372036854775807) : ∀ (d k i : Nat), i ≤ l.length → l.length - i = d → d < k → besomref02_Ints.l0 k l l (i : Int) = some true := by
 intro d
 induction d with
 | zero =>
  intro k i h1 h2 h3
  obtain ⟨k, rfl⟩ : ∃ m, k = m + 1 := ⟨k - 1, by omega⟩
  simp only [besomref02_Ints.l0]
  rw [if_neg (by omega)]
 | succ d ih =>
  intro k i h1 h2 h3
  obtain ⟨k, rfl⟩ : ∃ m, k = m + 1 := ⟨k - 1, by omega⟩
  simp only [besomref02_Ints.l0]
  rw [if_pos (by omega), if_pos (by omega), if_pos (by omega), if_pos True.intro, wrapM (by omega)]
  exact ih k (i + 1) (by omega) (by omega) (by omega)
theorem Ints_same (l : List Int) (k : Nat) (hz : l.length ≤ 9223372036854775807) (hk : l.length < k) : besomref02_Ints.f k l l = some true := by
 unfold besomref02_Ints.f
 rw [if_pos rfl]
 exact Ints_loop l hz l.length k 0 (by omega) (by omega) hk
set_option maxRecDepth 100000 in
set_option maxHeartbeats 4000000 in
theorem holdsLaw_calls (A0 : Option Addr) (c0 : Nat) (l0 : List S25) (e0 e1 : Int) (A2 : Option Addr) (c2 : Nat) (l2 : List ByteArray) (a3 : ByteArray) (w : World) (hr0 : Kd.C k25 w A0 l0.length l0) (hc0 : l0.length ≤ c0) (hr2 : Kd.C Kd.string w A2 l2.length l2) (hc2 : l2.length ≤ c2) :
  Calls Tryz.prog 4 #[.slice A0 l0.length c0, .agg #[.int .i64 e0, .int .i64 e1], .slice A2 l2.length c2, .string a3] w fun e w' => e = .returned (.bool true) ∧ Below w.heap.size w w' := by
 have H0 := Aside0.mk hr0
 have H2 := Aside0.mk hr2
 clear hr0 hr2
 refine callsK (args := [.slice A0 l0.length c0, .agg #[.int .i64 e0, .int .i64 e1], .slice A2 l2.length c2, .string a3]) Tryz.func4 rfl Tryz.ntmps4 (by simp) fun a HF => ?_
 replace HF : Fr 124 [] [(0, .slice A0 l0.length c0), (1, .agg #[.int .i64 e0, .int .i64 e1]), (2, .slice A2 l2.length c2), (3, .string a3)] a := HF
 refine wpIn_seq (wpIn_region_k (fun _ => trivial) rfl wideC HF fun K hK => ?_)
 repeat (refine OpsK.step rfl rfl rfl ?_; go_simp)
 refine fin hK [(0, .slice A0 l0.length c0), (2, .slice A2 l2.length c2), (3, .string a3), (5, .pointer (some ⟨w.heap.size, 0, none⟩))] ⟨rfl, rfl, rfl, rfl, trivial⟩ fun a HF => ?_
 clear hK K
 show Code.wpIn _ _ _ _ _ _ (w.alloc (.cells #[.int .i64 e0, .int .i64 e1] 34))
 have hB : Below w.heap.size w (w.alloc (.cells #[.int .i64 e0, .int .i64 e1] 34)) := (Below.refl _ _).alloc (Nat.le_refl _) _
 have hg := World.alloc_heap_new w (.cells #[.int .i64 e0, .int .i64 e1] 34)
 obtain ⟨g, hgg⟩ : ∃ g, g = w.heap.size := ⟨_, rfl⟩
 rw [← hgg] at hg HF
 generalize w.alloc (.cells #[.int .i64 e0, .int .i64 e1] 34) = W1 at hB hg ⊢
 have HB := Aside0.mk hB
 have HG := Aside0.mk hg
 clear hB hg hgg
 refine wpIn_seq (wpIn_seq (wpIn_region_k (fun _ => trivial) rfl wideC HF fun K hK => ?_))
 have HK : ∀ (d : Bool) (l : Slots) (W : World), Sub l [(0, .slice A0 l0.length c0), (2, .slice A2 l2.length c2), (3, .string a3), (5, .pointer (some ⟨g, 0, none⟩)), (30, .bool d)] → Below W1.heap.size W1 W → (d = false → l2.length ≤ 70) → K l W := by
  intro d l W hs hb hd
  refine hK _ _ fun a hf => ?_
  have HF := hf.sub hs
  have HC := Aside0.mk hb
  clear hK K hf hs hb
  simp only [Exit.then, Exit.inBlock, ↓reduceIte]
  refine wpIn_cond (HF.tmp rfl) ?_
  cases d
  ·have hl2 := hd rfl
   refine wpIn_skip ?_
   simp only [Exit.then, Exit.inBlock, ↓reduceIte]
   obtain ⟨hs, eh, u1, u2, u3⟩ := ref_holds l0 e0 l2 5000000 hl2 (Nat.le_refl _)
   obtain ⟨ws, ew, u4⟩ : ∃ ws ew, protest_Why.f l0 e0 l2 a3 = some (ws, ew) := ⟨_, _, rfl⟩
   obtain ⟨xs, ys, ec, u5, u6, u7, u8⟩ := ref_changed l0 e0 e1 l2 5000000 hl2 (Nat.le_refl _)
   have U1 := Aside0.mk u1
   have U2 := Aside0.mk u2
   have U4 := Aside0.mk u4
   have U5 := Aside0.mk u5
   have U6 := Aside0.mk u6
   clear hd u1 u2 u4 u5 u6
   refine wpIn_seq (wpIn_region_k (fun _ => trivial) rfl wideC HF fun K hK => ?_)
   obtain ⟨q0, q1⟩ := two_cells (heap_keep HC.out HG.out)
   repeat (refine OpsK.step rfl rfl rfl ?_; go_simp)
   clear q0 q1
   refine (protest_Holds.calls A0 c0 l0 e0 A2 c2 l2 hs eh W (Kd.C_below H0.out (bt HB.out HC.out)) hc0 (Kd.C_below H2.out (bt HB.out HC.out)) hc2 U1.out).mono ?_
   rintro _ V1 ⟨v, rfl, hR, hb⟩
   obtain ⟨Al1, cl1, rfl⟩ := Kd.R_slice hR
   have HL1 := Aside0.mk (Kd.R_reads' hR).2
   clear hR
   have HS0 := Aside0.mk hb
   have HC1 := Aside0.mk (bt HC.out hb)
   clear hb HC
   dsimp only
   repeat (refine OpsK.step rfl rfl rfl ?_; go_simp)
   refine fin hK [(0, .slice A0 l0.length c0), (2, .slice A2 l2.length c2), (3, .string a3), (5, .pointer (some ⟨g, 0, none⟩)), (9, .slice Al1 hs.length cl1), (10, .int .i64 eh)] ⟨rfl, rfl, rfl, rfl, rfl, rfl, trivial⟩ fun a HF => ?_
   clear hK K
   refine wpIn_seq (wpIn_region_k (fun _ => trivial) rfl wideC HF fun K hK => ?_)
   obtain ⟨q0, q1⟩ := two_cells (heap_keep HC1.out HG.out)
   repeat (refine OpsK.step rfl rfl rfl ?_; go_simp)
   clear q0 q1
   refine (besomref09_Holds.calls 5000000 A0 c0 l0 e0 A2 c2 l2 hs eh V1 (Kd.C_below H0.out (bt HB.out HC1.out)) hc0 (Kd.C_below H2.out (bt HB.out HC1.out)) hc2 U2.out).mono ?_
   rintro _ V2 ⟨v, rfl, hR, hb⟩
   obtain ⟨Al2, cl2, rfl⟩ := Kd.R_slice hR
   have HL2 := Aside0.mk (Kd.R_reads' hR).2
   clear hR
   have HS1 := Aside0.mk hb
   have HC2 := Aside0.mk (bt HC1.out hb)
   clear hb HC1
   dsimp only
   repeat (refine OpsK.step rfl rfl rfl ?_; go_simp)
   refine fin hK [(0, .slice A0 l0.length c0), (2, .slice A2 l2.length c2), (3, .string a3), (5, .pointer (some ⟨g, 0, none⟩)), (9, .slice Al1 hs.length cl1), (10, .int .i64 eh), (11, .slice Al2 hs.length cl2), (12, .int .i64 eh)] ⟨rfl, rfl, rfl, rfl, rfl, rfl, rfl, rfl, trivial⟩ fun a HF => ?_
   clear hK K
   refine wpIn_seq (wpIn_region_k (fun _ => trivial) rfl wideC HF fun K hK => ?_)
   obtain ⟨q0, q1⟩ := two_cells (heap_keep HC2.out HG.out)
   repeat (refine OpsK.step rfl rfl rfl ?_; go_simp)
   clear q0 q1
   refine (protest_Why.calls A0 c0 l0 e0 A2 c2 l2 a3 ws ew V2 (Kd.C_below H0.out (bt HB.out HC2.out)) hc0 (Kd.C_below H2.out (bt HB.out HC2.out)) hc2 U4.out).mono ?_
   rintro _ V3 ⟨v, rfl, hR, hb⟩
   obtain ⟨Al3, cl3, rfl⟩ := Kd.R_slice hR
   have HL3 := Aside0.mk (Kd.R_reads' hR).2
   clear hR
   have HS2 := Aside0.mk hb
   have HC3 := Aside0.mk (bt HC2.out hb)
   clear hb HC2
   dsimp only
   repeat (refine OpsK.step rfl rfl rfl ?_; go_simp)
   refine fin hK [(0, .slice A0 l0.length c0), (2, .slice A2 l2.length c2), (3, .string a3), (5, .pointer (some ⟨g, 0, none⟩)), (9, .slice Al1 hs.length cl1), (10, .int .i64 eh), (11, .slice Al2 hs.length cl2), (12, .int .i64 eh), (13, .slice Al3 ws.length cl3), (14, .int .i64 ew)] ⟨rfl, rfl, rfl, rfl, rfl, rfl, rfl, rfl, rfl, rfl, trivial⟩ fun a HF => ?_
   clear hK K
   refine wpIn_seq (wpIn_region_k (fun _ => trivial) rfl wideC HF fun K hK => ?_)
   obtain ⟨q0, q1⟩ := two_cells (heap_keep HC3.out HG.out)
   repeat (refine OpsK.step rfl rfl rfl ?_; go_simp)
   clear q0 q1
   refine (ref_why_calls A0 c0 l0 e0 A2 c2 l2 a3 ws ew V3 (Kd.C_below H0.out (bt HB.out HC3.out)) hc0 (Kd.C_below H2.out (bt HB.out HC3.out)) hc2 U4.out).mono ?_
   rintro _ V4 ⟨v, rfl, hR, hb⟩
   obtain ⟨Al4, cl4, rfl⟩ := Kd.R_slice hR
   have HL4 := Aside0.mk (Kd.R_reads' hR).2
   clear hR
   have HS3 := Aside0.mk hb
   have HC4 := Aside0.mk (bt HC3.out hb)
   clear hb HC3
   dsimp only
   repeat (refine OpsK.step rfl rfl rfl ?_; go_simp)
   refine fin hK [(0, .slice A0 l0.length c0), (2, .slice A2 l2.length c2), (3, .string a3), (5, .pointer (some ⟨g, 0, none⟩)), (9, .slice Al1 hs.length cl1), (10, .int .i64 eh), (11, .slice Al2 hs.length cl2), (12, .int .i64 eh), (13, .slice Al3 ws.length cl3), (14, .int .i64 ew), (15, .slice Al4 ws.length cl4), (16, .int .i64 ew)] ⟨rfl, rfl, rfl, rfl, rfl, rfl, rfl, rfl, rfl, rfl, rfl, rfl, trivial⟩ fun a HF => ?_
   clear hK K
   refine wpIn_seq (wpIn_region_k (fun _ => trivial) rfl wideC HF fun K hK => ?_)
   obtain ⟨q0, q1⟩ := two_cells (heap_keep HC4.out HG.out)
   repeat (refine OpsK.step rfl rfl rfl ?_; go_simp)
   clear q0 q1
   refine (protest_Changed.calls A0 c0 l0 e0 e1 A2 c2 l2 xs ys ec V4 (Kd.C_below H0.out (bt HB.out HC4.out)) hc0 (Kd.C_below H2.out (bt HB.out HC4.out)) hc2 U5.out).mono ?_
   rintro _ V5 ⟨v, v', rfl, hR, hR', hb⟩
   obtain ⟨Al5, cl5, rfl⟩ := Kd.R_slice hR
   have HL5 := Aside0.mk (Kd.R_reads' hR).2
   obtain ⟨Al6, cl6, rfl⟩ := Kd.R_slice hR'
   have HL6 := Aside0.mk (Kd.R_reads' hR').2
   clear hR hR'
   have HS4 := Aside0.mk hb
   have HC5 := Aside0.mk (bt HC4.out hb)
   clear hb HC4
   dsimp only
   repeat (refine OpsK.step rfl rfl rfl ?_; go_simp)
   refine fin hK [(0, .slice A0 l0.length c0), (2, .slice A2 l2.length c2), (3, .string a3), (5, .pointer (some ⟨g, 0, none⟩)), (9, .slice Al1 hs.length cl1), (10, .int .i64 eh), (11, .slice Al2 hs.length cl2), (12, .int .i64 eh), (13, .slice Al3 ws.length cl3), (14, .int .i64 ew), (15, .slice Al4 ws.length cl4), (16, .int .i64 ew), (17, .slice Al5 xs.length cl5), (18, .slice Al6 ys.length cl6), (19, .int .i64 ec)] ⟨rfl, rfl, rfl, rfl, rfl, rfl, rfl, rfl, rfl, rfl, rfl, rfl, rfl, rfl, rfl, trivial⟩ fun a HF => ?_
   clear hK K
   refine wpIn_seq (wpIn_region_k (fun _ => trivial) rfl wideC HF fun K hK => ?_)
   obtain ⟨q0, q1⟩ := two_cells (heap_keep HC5.out HG.out)
   repeat (refine OpsK.step rfl rfl rfl ?_; go_simp)
   clear q0 q1
   refine (besomref09_Changed.calls 5000000 A0 c0 l0 e0 e1 A2 c2 l2 xs ys ec V5 (Kd.C_below H0.out (bt HB.out HC5.out)) hc0 (Kd.C_below H2.out (bt HB.out HC5.out)) hc2 U6.out).mono ?_
   rintro _ V6 ⟨v, v', rfl, hR, hR', hb⟩
   obtain ⟨Al7, cl7, rfl⟩ := Kd.R_slice hR
   have HL7 := Aside0.mk (Kd.R_reads' hR).2
   obtain ⟨Al8, cl8, rfl⟩ := Kd.R_slice hR'
   have HL8 := Aside0.mk (Kd.R_reads' hR').2
   clear hR hR'
   have HS5 := Aside0.mk hb
   have HC6 := Aside0.mk (bt HC5.out hb)
   clear hb HC5
   dsimp only
   repeat (refine OpsK.step rfl rfl rfl ?_; go_simp)
   refine fin hK [(0, .slice A0 l0.length c0), (2, .slice A2 l2.length c2), (5, .pointer (some ⟨g, 0, none⟩)), (9, .slice Al1 hs.length cl1), (10, .int .i64 eh), (11, .slice Al2 hs.length cl2), (12, .int .i64 eh), (13, .slice Al3 ws.length cl3), (14, .int .i64 ew), (15, .slice Al4 ws.length cl4), (16, .int .i64 ew), (17, .slice Al5 xs.length cl5), (18, .slice Al6 ys.length cl6), (19, .int .i64 ec), (20, .slice Al7 xs.length cl7), (21, .slice Al8 ys.length cl8), (22, .int .i64 ec)] ⟨rfl, rfl, rfl, rfl, rfl, rfl, rfl, rfl, rfl, rfl, rfl, rfl, rfl, rfl, rfl, rfl, rfl, trivial⟩ fun a HF => ?_
   clear hK K
   have b5 := HS5.out
   have b4 := bt HS4.out b5
   have b3 := bt HS3.out b4
   have b2 := bt HS2.out b3
   have b1 := bt HS1.out b2
   have HM1 := Aside0.mk (And.intro HL1.out.1 (Kd.C_below HL1.out.2 b1))
   have HM2 := Aside0.mk (And.intro HL2.out.1 (Kd.C_below HL2.out.2 b2))
   have HM3 := Aside0.mk (And.intro HL3.out.1 (Kd.C_below HL3.out.2 b3))
   have HM4 := Aside0.mk (And.intro HL4.out.1 (Kd.C_below HL4.out.2 b4))
   have HM5 := Aside0.mk (And.intro HL5.out.1 (Kd.C_below HL5.out.2 b5))
   have HM6 := Aside0.mk (And.intro HL6.out.1 (Kd.C_below HL6.out.2 b5))
   have HM7 := HL7
   have HM8 := HL8
   clear b1 b2 b3 b4 b5 HS0 HS1 HS2 HS3 HS4 HS5 HL1 HL2 HL3 HL4 HL5 HL6 HL7 HL8 U1 U2 U4 U5 U6
   refine wpIn_seq (wpIn_region_k (fun _ => trivial) rfl wideC HF fun K hK => ?_)
   have HD0 := Aside0.mk (Below.refl V6.heap.size V6)
   repeat (refine OpsK.step rfl rfl rfl ?_; go_simp)
   refine (besomref09_Same.calls 200 Al1 cl1 hs Al2 cl2 hs true _ (Kd.C_below HM1.out.2 HD0.out) HM1.out.1 (Kd.C_below HM2.out.2 HD0.out) HM2.out.1 (by rw [Same_eq hs hs 200 (by omega) (by omega)]; simp)).mono ?_
   rintro _ X1 ⟨rfl, hd⟩
   have HD1 := Aside0.mk (bd HD0.out hd)
   clear hd HD0
   dsimp only
   repeat (refine OpsK.step rfl rfl rfl ?_; go_simp)
   refine (besomref02_Ints.calls (ws.length + 1) Al3 cl3 ws Al4 cl4 ws true _ (Kd.C_below HM3.out.2 HD1.out) HM3.out.1 (Kd.C_below HM4.out.2 HD1.out) HM4.out.1 (Ints_same ws _ HM3.out.2.2.1 (Nat.lt_succ_self _))).mono ?_
   rintro _ X2 ⟨rfl, hd⟩
   have HD2 := Aside0.mk (bd HD1.out hd)
   clear hd HD1
   dsimp only
   repeat (refine OpsK.step rfl rfl rfl ?_; go_simp)
   refine (besomref09_Same.calls 200 Al5 cl5 xs Al7 cl7 xs true _ (Kd.C_below HM5.out.2 HD2.out) HM5.out.1 (Kd.C_below HM7.out.2 HD2.out) HM7.out.1 (by rw [Same_eq xs xs 200 (by omega) (by omega)]; simp)).mono ?_
   rintro _ X3 ⟨rfl, hd⟩
   have HD3 := Aside0.mk (bd HD2.out hd)
   clear hd HD2
   dsimp only
   repeat (refine OpsK.step rfl rfl rfl ?_; go_simp)
   refine (besomref09_Same.calls 200 Al6 cl6 ys Al8 cl8 ys true _ (Kd.C_below HM6.out.2 HD3.out) HM6.out.1 (Kd.C_below HM8.out.2 HD3.out) HM8.out.1 (by rw [Same_eq ys ys 200 (by omega) (by omega)]; simp)).mono ?_
   rintro _ X4 ⟨rfl, hd⟩
   have HD4 := Aside0.mk (bd HD3.out hd)
   clear hd HD3
   dsimp only
   repeat (refine OpsK.step rfl rfl rfl ?_; go_simp)
   refine (awake_true X4).mono ?_
   rintro _ X5 ⟨rfl, hb⟩
   have HD5 := Aside0.mk (bt HD4.out hb)
   clear hb HD4
   dsimp only
   repeat (refine OpsK.step rfl rfl rfl ?_; go_simp)
   refine fin hK [(8, .bool true)] ⟨rfl, trivial⟩ fun a HF => ?_
   exact wpIn_ret (HF.ret1 rfl rfl ⟨rfl, bt (bt HB.out HC6.out) HD5.out⟩)
  ·refine wpIn_seq (wpIn_region_k (fun _ => trivial) rfl wideC HF fun K hK => ?_)
   repeat (refine OpsK.step rfl rfl rfl ?_; go_simp)
   refine (awake_true W).mono ?_
   rintro _ X5 ⟨rfl, hb⟩
   have HD5 := Aside0.mk (bt HC.out hb)
   clear hb HC
   dsimp only
   repeat (refine OpsK.step rfl rfl rfl ?_; go_simp)
   refine fin hK [(8, .bool true)] ⟨rfl, trivial⟩ fun a HF => ?_
   refine wpIn_ret ?_
   simp only [Exit.then, ↓reduceIte]
   exact HF.ret1 rfl rfl ⟨rfl, bt HB.out HD5.out⟩
 clear hK
 repeat (refine OpsK.step rfl rfl rfl ?_; go_simp)
 refine (great_call A0 c0 l0 A2 c2 l2 W1 (Kd.C_below H0.out HB.out) hc0 (Kd.C_below H2.out HB.out) hc2).mono ?_
 rintro _ W ⟨b, rfl, hg, hb⟩
 have HC := Aside0.mk hb
 have HGR := Aside0.mk hg
 clear hb hg
 dsimp only
 cases b
 all_goals repeat (first | (refine OpsK.step rfl rfl rfl ?_; go_simp) | refine OpsK.skip rfl rfl ?_)
 ·exact HK _ _ _ ⟨rfl, rfl, rfl, rfl, rfl, trivial⟩ HC.out fun _ => (HGR.out rfl).2
 ·exact HK _ _ _ ⟨rfl, rfl, rfl, rfl, rfl, trivial⟩ HC.out fun h => by cases h
end
section
section
variable {H : Type} {enc : TypeId × Value → H} {w : World} {base : Nat} {spare : Nat → Bool} {held : Bool} {fuel : Nat} {cs : List Value} {x : DataW H × List MemPlace}
theorem open_S {t : TypeId} (ht : Tryz.prog.underlying t = some (.slice 9)) (h : DataW.trod enc Tryz.prog w base spare held fuel t cs = some x) : ∃ A l c, cs = [.slice A (l : List ByteArray).length c] ∧ l.length ≤ c ∧ Kd.C Kd.string w A l.length l := by
 rcases Go.Deep.open_strs ht Tryz.underlying9 (by kernel_rfl) h with ⟨rfl, _⟩ | ⟨a, len, cap, m, Sx, rfl, _, hl, hm, hmm, _, hc⟩
 ·exact ⟨none, [], 0, rfl, Nat.le_refl _, rfl, by decide, fun h => absurd h (by decide)⟩
 ·have hlm : len ≤ m := by rw [hmm]; split <;> omega
  refine ⟨some a, (List.range len).map Sx, cap, by simp, by simpa using hl, rfl, by simp only [List.length_map, List.length_range, maxLen] at *; omega, fun _ => ⟨a, rfl, fun j p hj => ⟨[.string p], rfl, rfl, fun i u hu => ?_⟩⟩⟩
  obtain ⟨hjl, rfl⟩ : j < len ∧ p = Sx j := by
   rw [List.getElem?_map] at hj
   obtain ⟨q, hq, rfl⟩ := Option.map_eq_some_iff.1 hj
   obtain ⟨h1, h2⟩ := List.getElem?_eq_some_iff.1 hq
   simp only [List.length_range] at h1
   rw [List.getElem_range] at h2
   subst h2
   exact ⟨h1, rfl⟩
  cases i with
  | succ n => simp at hu
  | zero =>
   simp at hu
   subst hu
   show w.cell? (a.add (j * 1 + 0)) = _
   rw [Nat.mul_one, Nat.add_zero]
   exact (hc j (by omega)).1
set_option maxRecDepth 100000 in
theorem open_cl (h : DataW.trod enc Tryz.prog w base spare held fuel 25 cs = some x) : ∃ y : S25, k25.K w y cs := by
 obtain ⟨xs, n, _, _, hl, hlen, hf⟩ := DataW.trod_struct Tryz.underlying25 h
 have hl6 : cs.length = 6 := hl.trans (by kernel_rfl)
 have e9 : Tryz.prog.cellsOf 9 = 1 := by kernel_rfl
 have e3 : Tryz.prog.cellsOf 3 = 1 := by kernel_rfl
 have e23 : Tryz.prog.cellsOf 23 = 1 := by kernel_rfl
 have hx6 : xs.length = 6 := hlen
 match cs, hl6 with
 | [v0, v1, v2, v3, v4, v5], _ =>
  match xs, hx6 with
  | [y0, y1, y2, y3, y4, y5], _ =>
   have f0 := hf 0 _ rfl
   have f1 := hf 1 _ rfl
   have f2 := hf 2 _ rfl
   have f3 := hf 3 _ rfl
   have f4 := hf 4 _ rfl
   have f5 := hf 5 _ rfl
   simp only [e9, e3, e23, List.drop_zero, List.drop_succ_cons, List.take_succ_cons, List.take_zero, List.getElem?_cons_zero, List.getElem?_cons_succ] at f0 f1 f2 f3 f4 f5
   obtain ⟨s0, g0, _⟩ := DataW.trod_string Tryz.underlying9 f0
   obtain ⟨n1, g1, _⟩ := DataW.trod_int Tryz.underlying3 f1
   obtain ⟨n2, g2, _⟩ := DataW.trod_int Tryz.underlying3 f2
   obtain ⟨A3, l3, c3, g3, h3, q3⟩ := open_S Tryz.underlying23 f3
   obtain ⟨A4, l4, c4, g4, h4, q4⟩ := open_S Tryz.underlying23 f4
   obtain ⟨s5, g5, _⟩ := DataW.trod_string Tryz.underlying9 f5
   cases g0; cases g1; cases g2; cases g3; cases g4; cases g5
   exact ⟨⟨s0, n1, n2, l3, l4, s5⟩, k25_mk w ⟨s0, n1, n2, l3, l4, s5⟩ h3 q3 h4 q4⟩
theorem open_book {t : TypeId} (ht : Tryz.prog.underlying t = some (.slice 25)) (h : DataW.trod enc Tryz.prog w base spare held fuel t cs = some x) : ∃ A l c, cs = [.slice A (l : List S25).length c] ∧ l.length ≤ c ∧ Kd.C k25 w A l.length l := by
 rcases Go.Deep.open_slice ht h with ⟨rfl, _⟩ | ⟨a, len, cap, m, n, D, Pl, rfl, _, hl, hm, hmm, _, hc⟩
 ·exact ⟨none, [], 0, rfl, Nat.le_refl _, rfl, by decide, fun h => absurd h (by decide)⟩
 ·have hlm : len ≤ m := by rw [hmm]; split <;> omega
  have e25 : Tryz.prog.cellsOf 25 = 6 := by kernel_rfl
  have each : ∀ i, i < m → ∃ y : S25, ∃ cs', cs'.length = 6 ∧ k25.K w y cs' ∧ ∀ j, j < 6 → w.cell? ((a.add (i * 6)).add j) = cs'[j]? := fun i hi => by
   obtain ⟨cs', h1, h2⟩ := hc i hi
   rw [e25] at h1
   obtain ⟨_, h3, h4⟩ := World.cells?_some h1
   obtain ⟨y, hy⟩ := open_cl h2
   exact ⟨y, cs', h3, hy, h4⟩
  have : ∃ Y : Nat → S25, ∀ i, i < m → ∃ cs', cs'.length = 6 ∧ k25.K w (Y i) cs' ∧ ∀ j, j < 6 → w.cell? ((a.add (i * 6)).add j) = cs'[j]? := by
   refine ⟨fun i => if h : i < m then (each i h).choose else z25, fun i hi => ?_⟩
   simp only [hi, dif_pos]
   exact (each i hi).choose_spec
  obtain ⟨Y, hY⟩ := this
  refine ⟨some a, (List.range len).map Y, cap, by simp, by simpa using hl, rfl, by simp only [List.length_map, List.length_range, maxLen] at *; omega, fun _ => ⟨a, rfl, fun j p hj => ?_⟩⟩
  obtain ⟨hjl, rfl⟩ : j < len ∧ p = Y j := by
   rw [List.getElem?_map] at hj
   obtain ⟨q, hq, rfl⟩ := Option.map_eq_some_iff.1 hj
   obtain ⟨h1, h2⟩ := List.getElem?_eq_some_iff.1 hq
   simp only [List.length_range] at h1
   rw [List.getElem_range] at h2
   subst h2
   exact ⟨h1, rfl⟩
  obtain ⟨cs', h1, h2, h3⟩ := hY j (by omega)
  refine ⟨cs', h1, h2, fun i u hu => ?_⟩
  have hi6 : i < 6 := by have := (List.getElem?_eq_some_iff.1 hu).1; omega
  have := h3 i hi6
  rw [hu] at this
  rw [← this]
  show w.cell? (a.add (j * 6 + i)) = w.cell? ((a.add (j * 6)).add i)
  rw [Go.Addr.add_add]
end
end
section
theorem agg_of {v : Value} {l : List Value} (h : v.cells.toList = l) (h2 : 2 ≤ l.length) : v = .agg l.toArray := by
 subst h
 cases v <;> simp_all [Value.cells]
section
variable {H : Type} {enc : TypeId × Value → H} {w : World} {base : Nat} {spare : Nat → Bool} {held : Bool} {v : Value} {d : DataW H} {p : List MemPlace}
theorem under34 : Tryz.prog.underlying 34 = some (.array 2 3) := by kernel_rfl
theorem open_two (h : DataW.Trod enc Tryz.prog w base spare held 34 v d p) : ∃ a b : Int, v = .agg #[.int .i64 a, .int .i64 b] := by
 obtain ⟨fuel, hf⟩ := h
 obtain ⟨xs, m, _, _, hl, hx, he⟩ := DataW.trod_array under34 hf
 have e3 : Tryz.prog.cellsOf 3 = 1 := by kernel_rfl
 have e34 : Tryz.prog.cellsOf 34 = 2 := by kernel_rfl
 rw [e34] at hl
 have h0 := he 0 (by omega)
 have h1 := he 1 (by omega)
 rw [e3, List.getElem?_eq_getElem (by omega)] at h0 h1
 obtain ⟨cs, hcs⟩ : ∃ cs, v.cells.toList = cs := ⟨_, rfl⟩
 rw [hcs] at hl h0 h1
 clear he hf
 match cs, hl with
 | [c0, c1], _ =>
  simp only [Nat.zero_mul, Nat.mul_one, List.drop_zero, List.drop_succ_cons, List.take_succ_cons, List.take_zero] at h0 h1
  obtain ⟨a, g0, _⟩ := DataW.trod_int Tryz.underlying3 h0
  obtain ⟨b, g1, _⟩ := DataW.trod_int Tryz.underlying3 h1
  cases g0; cases g1
  exact ⟨a, b, agg_of hcs (by simp)⟩
end
end
end Go.Proofs.YtlhkeohcickiaaaGreatDoor.E
namespace Go.Proofs.YtlhkeohcickiaaaGreatDoor.protestHolds
open Go.ChangeShapes Go.WideShapes Go.ChangeAt Go.RowKit Go.Proofs.YtlhkeohcickiaaaGreatDoor.E Go.Proofs.YtlhkeohcickiaaaGreatDoorW.PrintWords Go.Proofs.YtlhkeohcickiaaaGreatDoorW.PrintLast Go.Proofs.YtlhkeohcickiaaaGreatDoorW.PrintMore
open Go.ChangeMaps (open_string shut_string)
theorem own : ownKnob Tryz.prog.godebug = none := by kernel_rfl
theorem laidOut : laidOutB Tryz.prog = true := by kernel_rfl
set_option maxRecDepth 100000 in
theorem lifted (os : Os) (started : os.Started) (H : Type) (enc : TypeId × Value → H) :
  ReturnsInHanded {} Tryz.checked os 4 .any (fun w args => (Rows.protestHoldsSpec.pre enc Tryz.prog Tryz.f4 Rows.protestHoldsRow.domain false w args ∧ laidMetH Tryz.prog Rows.protestHoldsRow.laid w) ∧ sizedMet enc Tryz.prog Tryz.f4 (OpenSpec.ofChange Rows.protestHoldsSpec) false w args)
   (Rows.protestHoldsSpec.post enc Tryz.prog Tryz.f4 false true false false) := by
 refine returnsInHanded_of_change_and (C := Tryz.checked) (X := fun w _ => laidMetH Tryz.prog Rows.protestHoldsRow.laid w) (fun _ _ _ hh h => h.of_heap hh) own started (by kernel_rfl) Tryz.func4
  (ChangeSpec.witness_shaped (enc := enc) (C := Tryz.checked) (os := os) (X := fun w _ => laidMetH Tryz.prog Rows.protestHoldsRow.laid w) false (World.laidAll Tryz.prog os Rows.protestHoldsRow.laid) #[.slice none 0 0, .agg #[.int .i64 0, .int .i64 0], .slice none 0 0, .string ByteArray.empty] 8 (World.laidAll_os _ _ _)
   (World.shaped_of_ZipB (by kernel_rfl) (by kernel_rfl)) (by kernel_rfl) (by kernel_rfl) (by kernel_rfl)
   (by rw [MakeChecks.laidMetH_plain _ _ _ (by kernel_rfl)]; exact laidMet_laidAll _ (by kernel_rfl) (by kernel_rfl))) ?_
 intro W base args ds gs before hval0 hW hc _ hL _
 have hval : ∀ (j : Nat) t v, Tryz.f4.params[j]? = some t → args[j]? = some v → Value.okWide Tryz.prog W .any base t v := hval0
 have hW' := hW
 obtain ⟨p, q, hA0, hV, rfl, hfz, hnd⟩ := hW
 have hA : DataW.TrodAll enc Tryz.prog W 0 (fun _ => true) true Tryz.f4.params.toList args.toList ds p := hA0
 rw [Tryz.params4] at hA hval
 obtain ⟨v0, vs0, d0, ds0, p0, q0, hargs, rfl, rfl, h0, r0⟩ := trodAll_cons hA
 obtain ⟨v1, vs1, d1, ds1, p1, q1, rfl, rfl, rfl, h1, r1⟩ := trodAll_cons r0
 obtain ⟨v2, vs2, d2, ds2, p2, q2, rfl, rfl, rfl, h2, r2⟩ := trodAll_cons r1
 obtain ⟨v3, vs3, d3, ds3, p3, q3, rfl, rfl, rfl, h3, r3⟩ := trodAll_cons r2
 obtain ⟨rfl, rfl, rfl⟩ := trodAll_nil r3
 obtain rfl : args = #[v0, v1, v2, v3] := by cases args; simp_all
 obtain ⟨rfl, rfl⟩ := trodVars_none hV
 obtain ⟨a0, len0, cap0, rfl⟩ := okWide_slice Tryz.underlying22 (hval 0 22 v0 rfl rfl)
 have k0 := h0
 have lt0 : ∀ x ∈ p0, x.block < W.heap.size := by obtain ⟨m, hm⟩ := k0; exact DataW.trod_lt m _ _ _ hm
 obtain ⟨l0, e0, c0, w0⟩ : ∃ l : List S25, len0 = l.length ∧ l.length ≤ cap0 ∧ Kd.C k25 W a0 l.length l := by
  obtain ⟨fuel, hf⟩ := h0
  obtain ⟨A, l, c, hcs, hl, hC⟩ := open_book Tryz.underlying22 hf
  simp [Value.cells] at hcs
  obtain ⟨rfl, rfl, rfl⟩ := hcs
  exact ⟨l, rfl, hl, hC⟩
 subst e0
 have k1 := h1
 have lt1 : ∀ x ∈ p1, x.block < W.heap.size := by obtain ⟨m, hm⟩ := k1; exact DataW.trod_lt m _ _ _ hm
 obtain ⟨u1, t1, rfl⟩ := open_two h1
 obtain ⟨a2, len2, cap2, rfl⟩ := okWide_slice Tryz.underlying23 (hval 2 23 v2 rfl rfl)
 have k2 := h2
 have lt2 : ∀ x ∈ p2, x.block < W.heap.size := by obtain ⟨m, hm⟩ := k2; exact DataW.trod_lt m _ _ _ hm
 obtain ⟨l2, e2, c2, w2⟩ : ∃ l : List ByteArray, len2 = l.length ∧ l.length ≤ cap2 ∧ Kd.C Kd.string W a2 l.length l := by
  obtain ⟨fuel, hf⟩ := h2
  obtain ⟨A, l, c, hcs, hl, hC⟩ := open_S Tryz.underlying23 hf
  simp [Value.cells] at hcs
  obtain ⟨rfl, rfl, rfl⟩ := hcs
  exact ⟨l, rfl, hl, hC⟩
 subst e2
 obtain ⟨a3, rfl, rfl, rfl, y3⟩ := open_string Tryz.underlying9 (hval 3 9 v3 rfl rfl) h3
 clear hA0 hval0
 refine (holdsLaw_calls a0 cap0 l0 u1 t1 a2 cap2 l2 a3 W w0 c0 w2 c2).mono fun e W' ⟨he, bel⟩ => ?_
 subst he
 exact ⟨_, rfl, _, _, _, [], _, [], hW', trodAll_mk1 (shut_bool Tryz.underlying4 _), (trodAll_cons_mk (Below.trod laidOut (by kernel_rfl) (of_decide_eq_true (by kernel_rfl)) k0 bel lt0) (trodAll_cons_mk (Below.trod laidOut (by kernel_rfl) (of_decide_eq_true (by kernel_rfl)) k1 bel lt1) (trodAll_cons_mk (Below.trod laidOut (by kernel_rfl) (of_decide_eq_true (by kernel_rfl)) k2 bel lt2) (trodAll_cons_mk (shut_string Tryz.underlying9 y3) trodAll_mk0)))), rfl, bel.frame _, fun h => by cases h⟩
theorem over : Rows.protestHoldsRow.holds Tryz.pinned (OpenSpec.ofChange Rows.protestHoldsSpec) :=
 OpenClaim.holds_of_wide 4 Tryz.f4 rfl rfl rfl rfl rfl rfl rfl ⟨rfl, rfl, rfl, rfl, rfl⟩ rfl rfl rfl rfl rfl (by kernel_rfl) Tryz.func4 (by kernel_rfl)
  (of_decide_eq_true (by kernel_rfl)) (by unfold Func.isWrapper; first | (rw [if_pos (by decide +kernel)]; kernel_rfl) | (rw [if_neg (by decide +kernel)]; exact ⟨rfl, rfl⟩))
  (fun os started H enc _ => lifted os started H enc)
theorem proved : Rows.ProtestHoldsSaid := over
theorem carded : Rows.ProtestHoldsCardSaid :=
 Claim7.holds_tied_plain_at .later [] [.data, .pinned] true (true, "98843cd4e3891271ebdf8b02a3300920f08920e848e48566e9e63e5fe3d60fc8") true proved (fun _ h => by cases h) (by kernel_rfl) (fun _ h => by cases h) protestHolds_row_tie rfl ⟨rfl, rfl⟩ (by kernel_rfl) rfl
  (fun f fn hf hfn => by
   obtain rfl : f = 4 := Option.some.inj ((show Tryz.prog.funcNamed "besom/besomlaw09.ProtestHolds" = some 4 by kernel_rfl).symm.trans hf) |>.symm
   obtain rfl : fn = Tryz.f4 := (Option.some.inj (Tryz.func4.symm.trans hfn)).symm
   exact ⟨by kernel_rfl, fun j t ht => by
    rw [Tryz.params4] at ht
    have hm : t ∈ [22, 34, 23, 9] := by simpa using Array.mem_of_getElem? ht
    have hall : ([22, 34, 23, 9].all fun u => !Tryz.prog.wantsStandIn u) = true := by kernel_rfl
    exact (show Tryz.prog.wantsStandIn t = false by simpa using List.all_eq_true.1 hall t hm)⟩)
  (by kernel_rfl)
end Go.Proofs.YtlhkeohcickiaaaGreatDoor.protestHolds
namespace Go.Proofs.YtlhkeohcickiaaaGreatDoor
theorem protestHolds_card : Rows.ProtestHoldsCardSaid := protestHolds.carded
end Go.Proofs.YtlhkeohcickiaaaGreatDoor

