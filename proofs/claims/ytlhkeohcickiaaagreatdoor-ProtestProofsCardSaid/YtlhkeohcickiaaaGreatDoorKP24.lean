/- Part 24 of 36 of the proof of ProtestProofs: lemmas, without conditions. -/
import Derived.Test.YtlhkeohcickiaaaGreatDoorKP21
import Derived.Test.YtlhkeohcickiaaaGreatDoorKP23
import Derived.Shelf.SlMaps.Clone
import Derived.Scope
import Derived.Shelf.SlicesE.DeleteFunc
import Derived.Test.YtlhkeohcickiaaaGreatDoorProg
import Derived.Shelf.Slices.Clone
import Derived.Lib.OwnBridge
import Derived.Test.YtlhkeohcickiaaaGreatDoorKP19
import Derived.Shelf.SlIter.Nil
import Derived.Shelf.SortM.Plain
import Derived.Shelf.SortM.SortNone
set_option linter.all false
namespace Go.Proofs.YtlhkeohcickiaaaGreatDoor.E
open Go.RowKit Go.Proofs.YtlhkeohcickiaaaGreatDoor.H Go.Proofs.YtlhkeohcickiaaaGreatDoorW.PrintWords Go.Proofs.YtlhkeohcickiaaaGreatDoorW.PrintLast Go.Proofs.YtlhkeohcickiaaaGreatDoorW.PrintMore
section
open Prot (heldOf roundL roundP addL addOne mkLevel mkLevels at_ firesB Good Fits)
attribute [local go_sem] slk sget sput uponK_value uponK_skip uponK_enter
open Prot (proveL stepOk)
attribute [local go_sem] SteadyRes_value SteadyRes_skip SteadyRes_enter
theorem clone_calls (g : Nat) (gs : List (ByteArray × Value)) (w : World) (hm : H.MapAt H.encS w g gs) : Calls Tryz.prog 82 #[.map (some g)] w fun e w' => e = .returned (.map (some w.heap.size)) ∧ H.MapAt H.encS w' w.heap.size gs ∧ Below w.heap.size w w' := by
 refine (AnyW.maps_Clone L.Tryz.clone82 g _ _ w hm.out).mono ?_
 rintro e w' ⟨rfl, rfl⟩
 exact ⟨rfl, World.alloc_heap_new w _, (Below.refl _ w).alloc (Nat.le_refl _) _⟩
def atOf : Option Nat → Int
 | some k => (k : Int)
 | none => -1
theorem cont_has (l : List ByteArray) (f : ByteArray) : @List.contains ByteArray instBEqOfDecidableEq l f = has (setOf l) f := by
 rw [has_setOf, Bool.eq_iff_iff]; simp
theorem all_take {α : Type} (p : α → Bool) (l : List α) {j : Nat} (h : j < l.length) : (l.take (j + 1)).all p = ((l.take j).all p && p l[j]) := by
 rw [← List.take_append_getElem h, List.all_append]; simp
theorem all_take_false {α : Type} (p : α → Bool) (l : List α) (k : Nat) (h : (l.take k).all p = false) : l.all p = false := by
 rw [← List.take_append_drop k l, List.all_append, h]; rfl
set_option maxRecDepth 100000 in
set_option maxHeartbeats 4000000 in
theorem broken_calls (wb b r h g rr : Nat) (A0 : Option Addr) (c0 : Nat) (l0 : List S25) (m : List (ByteArray × Nat)) (ed : Int) (held facts : List ByteArray) (rs : List (ByteArray × Value)) (ov : Value) (A1 : Option Addr) (c1 : Nat) (sl : List Nat) (w : World) (hr0 : Kd.C k25 w A0 l0.length l0) (hsl : ∀ i ∈ sl, i < l0.length)
  (hwa : WAt w wb b r h g rr (.slice A0 l0.length c0) m (topOf m) ed (setOf held) (setOf facts) rs ov) (hst : (Kd.int .i64).C w A1 (ints sl).length (ints sl)) (hlen : l0.length ≤ 64) :
  Calls Tryz.prog 62 #[.pointer (some ⟨wb, 0, none⟩), .slice A1 sl.length c1] w fun e w' => ∃ km, e = .returned (.tuple #[.int .i64 (atOf (proveL ed (l0.map toC) held sl facts 0).1), .map (some km)]) ∧
   H.MapAt H.encS w' km (setOf (proveL ed (l0.map toC) held sl facts 0).2) ∧ w.heap.size ≤ km ∧ Below w.heap.size w w' := by
 have h63 : sl.length ≤ 9223372036854775807 := by have := hst.2.1; rwa [ints_len] at this
 obtain ⟨y0, y1, y2, y3, y4, y5, y6⟩ := hwa.cells
 have HCL := Aside0.mk (clone_calls g (setOf facts) w hwa.given)
 have HWA := Aside0.mk hwa
 have HST := Aside0.mk hst
 have HR0 := Aside0.mk hr0
 have HSL := Aside0.mk hsl
 clear hwa hst hr0 hsl
 refine callsK (args := [.pointer (some ⟨wb, 0, none⟩), .slice A1 sl.length c1]) Tryz.func62 rfl Tryz.ntmps62 (by simp) fun a HF0 => ?_
 have HF : Fr 77 [] [(0, .pointer (some ⟨wb, 0, none⟩)), (1, .slice A1 sl.length c1)] a := HF0
 clear HF0
 refine wpIn_seq ?_
 refine wpIn_region_k (fun _ => trivial) rfl wideC HF fun K hK => ?_
 iterate 2 (refine OpsK.step rfl rfl rfl ?_; go_simp)
 refine OpsK.nil (hK _ _ fun a' hf' => ?_)
 clear hK K HF
 have HF : Fr 77 [] [(0, .pointer (some ⟨wb, 0, none⟩)), (1, .slice A1 sl.length c1)] a' := hf'.sub ⟨rfl, rfl, trivial⟩
 clear hf'
 refine wpIn_wide.2 (wp_scope_straight ((wpIn_wide (n := 8)).1 ?_))
 refine wpIn_seq ?_
 refine wpIn_region_k (fun _ => trivial) rfl wideC HF fun K hK => ?_
 iterate 5 (refine OpsK.step rfl rfl rfl ?_; go_simp)
 refine HCL.out.mono ?_
 rintro e w1 ⟨rfl, hm1, hb1⟩
 dsimp only
 refine OpsK.step rfl rfl rfl ?_
 go_simp
 refine OpsK.nil (hK _ _ fun a' hf' => ?_)
 clear hK K HF
 have HF : Fr 77 [] [(0, .pointer (some ⟨wb, 0, none⟩)), (1, .slice A1 sl.length c1), (6, .map (some w.heap.size))] a' := hf'.sub ⟨rfl, rfl, rfl, trivial⟩
 clear hf'
 obtain ⟨km, hkm⟩ : ∃ km, km = w.heap.size := ⟨_, rfl⟩
 rw [← hkm] at HF hm1
 have hkl : w.heap.size ≤ km := Nat.le_of_eq hkm.symm
 have HM1 := Aside0.mk hm1
 have HB1 := Aside0.mk hb1
 clear hm1 hb1 hkm y0 y1 y2 y3 y4 y5 y6
 refine wpIn_seq ?_
 refine wpIn_region_k (fun _ => trivial) rfl wideC HF fun K hK => ?_
 refine OpsK.step rfl rfl rfl ?_
 go_simp
 refine OpsK.nil (hK _ _ fun a' hf' => ?_)
 clear hK K HF
 have HF : Fr 77 [] [(1, .slice A1 sl.length c1), (0, .pointer (some ⟨wb, 0, none⟩)), (6, .map (some km)), (7, .int .i64 (-1))] a' := hf'.sub ⟨rfl, rfl, rfl, rfl, trivial⟩
 clear hf'
 refine wpIn_seq (wpIn_label ?_)
 refine wpIn_seq (wpIn_seq ?_)
 refine wpIn_region_k (fun _ => trivial) rfl wideC HF fun K hK => ?_
 iterate 3 (refine OpsK.step rfl rfl rfl ?_; go_simp)
 refine OpsK.nil (hK _ _ fun a' hf' => ?_)
 clear hK K HF
 have HF : Fr 77 [] [(0, .pointer (some ⟨wb, 0, none⟩)), (6, .map (some km)), (20, .slice A1 sl.length c1), (21, .int .i64 (sl.length : Nat)), (7, .int .i64 (-1)), (22, .int .i64 0)] a' := hf'.sub ⟨rfl, rfl, rfl, rfl, rfl, rfl, trivial⟩
 clear hf'
 refine wpIn_block (wpIn_loop (fun a wr => ∃ (j : Nat) (ks : List ByteArray), j ≤ sl.length ∧ Fr 77 [] [(0, .pointer (some ⟨wb, 0, none⟩)), (6, .map (some km)), (20, .slice A1 sl.length c1), (21, .int .i64 (sl.length : Nat)), (7, .int .i64 (-1)), (22, .int .i64 (j : Nat))] a ∧ proveL ed (l0.map toC) held (sl.drop j) ks j = proveL ed (l0.map toC) held sl facts 0 ∧ H.MapAt H.encS wr km (setOf ks) ∧ Below w.heap.size w wr)
  (fun a _ => sl.length - (intOf (a.eval (.tmp 22))).toNat) ⟨0, facts, Nat.zero_le _, HF, rfl, HM1.out, HB1.out⟩ ?_)
 clear HF
 rintro a wr ⟨j, ks, hj, HF, hpr, hmr, hbr⟩
 have hmu : sl.length - (intOf (a.eval (.tmp 22))).toNat = sl.length - j := by rw [HF.tmp (k := 22) rfl]; simp [intOf]
 rw [hmu]
 clear hmu
 have HPR := Aside0.mk hpr
 have HMR := Aside0.mk hmr
 have HBR := Aside0.mk hbr
 clear hpr hmr hbr HM1 HB1 HCL
 refine wpIn_seq ?_
 by_cases hjl : j < sl.length
 ·have hlt : ((j : Nat) : Int) < ((sl.length : Nat) : Int) := by omega
  obtain ⟨ad1, hA1, hc1⟩ := Kd.at_int (Kd.C_below HST.out HBR.out) (j : Int) (by omega) (by rw [ints_len]; omega)
  cases hA1
  simp only [Int.toNat_natCast] at hc1
  rw [rd_ints sl hjl] at hc1
  obtain ⟨i, hi⟩ : ∃ i, i = sl[j] := ⟨_, rfl⟩
  rw [← hi] at hc1
  have hil : i < l0.length := by rw [hi]; exact HSL.out _ (List.getElem_mem hjl)
  have hr0r := Kd.C_below HR0.out HBR.out
  obtain ⟨ad, A3, c3, A4, c4, hA0, x0, x1, x2, x3, x4, x5, l3, g3, l4, g4⟩ := at_T25 hr0r (i : Int) (by omega) (by omega)
  simp only [Int.toNat_natCast] at x0 x1 x2 x3 x4 x5
  obtain ⟨x, hx⟩ : ∃ x, x = rd_T25 l0 (i : Int) := ⟨_, rfl⟩
  rw [← hx] at x0 x1 x2 x3 x4 x5 l3 g3 l4 g4
  have hat : at_ (l0.map toC) i = toC x := by rw [hx]; exact at_toC l0 hil
  have hwar := HWA.out.below HBR.out
  obtain ⟨y0, y1, y2, y3, y4, y5, y6⟩ := hwar.cells
  obtain ⟨q0, q1, q2, q3⟩ := hwar.book.cell
  have hdrop : sl.drop j = i :: sl.drop (j + 1) := by rw [hi]; exact List.drop_eq_getElem_cons hjl
  have hpr2 := HPR.out
  rw [hdrop, Prot.proveL_cons] at hpr2
  have hso : stepOk ed (l0.map toC) held ks i = ((decide (x.f1 ≤ ed) && decide (ed ≤ x.f2)) && (x.f3.all (has (setOf ks)) && !(x.f4.any (has (setOf held))))) := by
   unfold stepOk Prot.standsB
   rw [hat]
   simp only [cont_has, toC]
   rfl
  obtain ⟨st, hstd⟩ : ∃ st, st = (decide (x.f1 ≤ ed) && decide (ed ≤ x.f2)) := ⟨_, rfl⟩
  rw [← hstd] at hso
  have HSTD := Aside0.mk hstd
  clear hstd
  cases A0 with
  | none => cases hA0
  | some ad0 =>
  cases hA0
  have HP2 := Aside0.mk hpr2
  have HSO := Aside0.mk hso
  have HAT := Aside0.mk hat
  have HWR := Aside0.mk hwar
  have hu25 := Tryz.underlying25
  have HLI : ((i : Nat) : Int) < ((l0.length : Nat) : Int) := by omega
  have HG3 := Aside0.mk g3
  have HG4 := Aside0.mk g4
  have HL3 := Aside0.mk l3
  have HL4 := Aside0.mk l4
  have hlen3 := g3.2.1
  have hlen4 := g4.2.1
  have hwJ := wrapJ (j := j) (by omega)
  have HWJ := Aside0.mk hwJ
  clear hi hx hat hdrop hpr2 hso hwar hr0r g3 g4 l3 l4 hwJ HPR
  refine wpIn_region_k (fun _ => trivial) rfl wideC HF fun K hK => ?_
  refine OpsK.step rfl rfl rfl ?_
  go_simp
  refine OpsK.nil (hK _ _ fun a' hf' => ?_)
  clear hK K HF
  have HF : Fr 77 [] [(0, .pointer (some ⟨wb, 0, none⟩)), (6, .map (some km)), (20, .slice (some ad1) sl.length c1), (21, .int .i64 (sl.length : Nat)), (22, .int .i64 (j : Nat)), (7, .int .i64 (-1)), (23, .bool true)] a' := hf'.sub ⟨rfl, rfl, rfl, rfl, rfl, rfl, rfl, trivial⟩
  clear hf'
  refine wpIn_seq (wpIn_cond_true (HF.tmp rfl) (wpIn_skip ?_))
  refine wpIn_seq (wpIn_block (wpIn_seq ?_))
  refine wpIn_region_k (fun _ => trivial) rfl wideC HF fun K hK => ?_
  iterate 5 (refine OpsK.step rfl rfl rfl ?_; go_simp)
  refine OpsK.nil (hK _ _ fun a' hf' => ?_)
  clear hK K HF
  have HF : Fr 77 [] [(0, .pointer (some ⟨wb, 0, none⟩)), (6, .map (some km)), (20, .slice (some ad1) sl.length c1), (21, .int .i64 (sl.length : Nat)), (22, .int .i64 (j : Nat)), (8, .int .i64 (j : Nat)), (9, .int .i64 (i : Nat))] a' := hf'.sub ⟨rfl, rfl, rfl, rfl, rfl, rfl, rfl, trivial⟩
  clear hf'
  refine wpIn_seq ?_
  refine wpIn_region_k (fun _ => trivial) rfl wideC HF fun K hK => ?_
  iterate 12 (refine OpsK.step rfl rfl rfl ?_; go_simp)
  refine OpsK.nil (hK _ _ fun a' hf' => ?_)
  clear hK K HF
  have HF : Fr 77 [] [(0, .pointer (some ⟨wb, 0, none⟩)), (6, .map (some km)), (20, .slice (some ad1) sl.length c1), (21, .int .i64 (sl.length : Nat)), (22, .int .i64 (j : Nat)), (8, .int .i64 (j : Nat)), (10, .pointer (some ⟨wr.heap.size, 0, none⟩))] a' := hf'.sub ⟨rfl, rfl, rfl, rfl, rfl, rfl, rfl, trivial⟩
  clear hf'
  refine wpIn_seq ?_
  refine wpIn_region_k (fun _ => trivial) rfl wideC HF fun K hK => ?_
  iterate 2 (refine OpsK.step rfl rfl rfl ?_; go_simp)
  refine OpsK.nil (hK _ _ fun a' hf' => ?_)
  clear hK K HF
  have HF : Fr 77 [] [(0, .pointer (some ⟨wb, 0, none⟩)), (6, .map (some km)), (20, .slice (some ad1) sl.length c1), (21, .int .i64 (sl.length : Nat)), (22, .int .i64 (j : Nat)), (7, .int .i64 (j : Nat)), (10, .pointer (some ⟨wr.heap.size, 0, none⟩))] a' := hf'.sub ⟨rfl, rfl, rfl, rfl, rfl, rfl, rfl, trivial⟩
  clear hf'
  have hcb : (wr.alloc (.cells #[.string x.f0, .int .i64 x.f1, .int .i64 x.f2, .slice A3 x.f3.length c3, .slice A4 x.f4.length c4, .string x.f5] 25)).heap[wr.heap.size]? = some (.cells #[.string x.f0, .int .i64 x.f1, .int .i64 x.f2, .slice A3 x.f3.length c3, .slice A4 x.f4.length c4, .string x.f5] 25 (0, 0)) := World.alloc_heap_new wr _
  have hw1 : Below wr.heap.size wr (wr.alloc (.cells #[.string x.f0, .int .i64 x.f1, .int .i64 x.f2, .slice A3 x.f3.length c3, .slice A4 x.f4.length c4, .string x.f5] 25)) := (Below.refl _ wr).alloc (Nat.le_refl _) _
  have hs1 : (wr.alloc (.cells #[.string x.f0, .int .i64 x.f1, .int .i64 x.f2, .slice A3 x.f3.length c3, .slice A4 x.f4.length c4, .string x.f5] 25)).heap.size = wr.heap.size + 1 := by simp
  generalize hcl : wr.heap.size = cb at hcb hs1 HF hw1
  generalize wr.alloc (.cells #[.string x.f0, .int .i64 x.f1, .int .i64 x.f2, .slice A3 x.f3.length c3, .slice A4 x.f4.length c4, .string x.f5] 25) = w1 at hcb hw1 hs1 ⊢
  have keep : ∀ W, Below w1.heap.size w1 W → W.heap[cb]? = some (.cells #[.string x.f0, .int .i64 x.f1, .int .i64 x.f2, .slice A3 x.f3.length c3, .slice A4 x.f4.length c4, .string x.f5] 25 (0, 0)) ∧ Below wr.heap.size wr W := fun W hW =>
   ⟨(hW.block cb (by omega)).trans hcb, by rw [hcl]; exact hw1.trans (hW.mono (by omega))⟩
  have HKP := Aside0.mk keep
  have HS1 := Aside0.mk hs1
  have HCB := Aside0.mk hcl
  clear hcb hw1 hs1 keep hcl x0 x1 x2 x3 x4 x5 y0 y1 y2 y3 y4 y5 y6 q0 q1 q2 q3 hc1
  refine wpIn_seq (wpIn_seq ?_)
  refine wpIn_region_S (by kernel_rfl) HF (fun W => Below w1.heap.size w1 W) (⟨rfl, rfl, rfl, Nat.le_refl _, fun _ _ => rfl⟩) (by kernel_rfl) fun K hK => ?_
  apply ChainC.val
  ·rfl
  ·rfl
  ·rfl
  ·intro W hW
   obtain ⟨hcbW, hbW⟩ := HKP.out W hW
   have k0 : W.cell? ⟨cb, 0, none⟩ = some (.string x.f0) := by unfold World.cell?; rw [hcbW]; rfl
   have k1 : W.cell? ⟨cb, 1, none⟩ = some (.int .i64 x.f1) := by unfold World.cell?; rw [hcbW]; rfl
   have k2 : W.cell? ⟨cb, 2, none⟩ = some (.int .i64 x.f2) := by unfold World.cell?; rw [hcbW]; rfl
   have k3 : W.cell? ⟨cb, 3, none⟩ = some (.slice A3 x.f3.length c3) := by unfold World.cell?; rw [hcbW]; rfl
   have k4 : W.cell? ⟨cb, 4, none⟩ = some (.slice A4 x.f4.length c4) := by unfold World.cell?; rw [hcbW]; rfl
   have k5 : W.cell? ⟨cb, 5, none⟩ = some (.string x.f5) := by unfold World.cell?; rw [hcbW]; rfl
   clear hcbW hbW
   go_simp
   first | exact rfl | exact ⟨rfl, hW⟩
  apply ChainC.val
  ·rfl
  ·rfl
  ·rfl
  ·intro W hW
   go_simp
   first | exact rfl | exact ⟨rfl, hW⟩
  apply ChainC.val
  ·rfl
  ·rfl
  ·rfl
  ·intro W hW
   go_simp
   first | exact rfl | exact ⟨rfl, hW⟩
  apply ChainC.val
  ·rfl
  ·rfl
  ·rfl
  ·intro W hW
   go_simp
   first | exact rfl | exact ⟨rfl, hW⟩
  apply ChainC.val
  ·rfl
  ·rfl
  ·rfl
  ·intro W hW
   obtain ⟨y0, y1, y2, y3, y4, y5, y6⟩ := (HWR.out.below (HKP.out W hW).2).cells
   clear y0 y2 y3 y4 y5 y6
   go_simp
   first | exact rfl | exact ⟨rfl, hW⟩
  apply ChainC.val
  ·rfl
  ·rfl
  ·rfl
  ·intro W hW
   go_simp
   obtain ⟨_, hbW⟩ := HKP.out W hW
   exact (stands_any _ _ _ _ _ _ _ _ _ _ _ _ (Kd.C_below HG3.out hbW) HL3.out (Kd.C_below HG4.out hbW) HL4.out).mono fun e W' ⟨he, hb⟩ => ⟨he.trans (show _ = Ending.returned (Value.bool st) from by rw [HSTD.out]), below_then hW hW.size hb⟩
  apply ChainC.val
  ·rfl
  ·rfl
  ·rfl
  ·intro W hW
   go_simp
   first | exact rfl | exact ⟨rfl, hW⟩
  refine ChainC.nil (hK _ fun a' w2 hf' hS' => ?_)
  clear hK K HF
  have HF : Fr 77 [] [(0, .pointer (some ⟨wb, 0, none⟩)), (6, .map (some km)), (20, .slice (some ad1) sl.length c1), (21, .int .i64 (sl.length : Nat)), (22, .int .i64 (j : Nat)), (7, .int .i64 (j : Nat)), (10, .pointer (some ⟨cb, 0, none⟩)), (44, .bool (!st))] a' := hf'.sub ⟨rfl, rfl, rfl, rfl, rfl, rfl, rfl, rfl, trivial⟩
  clear hf'
  have hb2 : Below wr.heap.size wr w2 := (HKP.out w2 hS').2
  have hcb2 := (HKP.out w2 hS').1
  have k3 : w2.cell? ⟨cb, 3, none⟩ = some (.slice A3 x.f3.length c3) := by unfold World.cell?; rw [hcb2]; rfl
  have k4 : w2.cell? ⟨cb, 4, none⟩ = some (.slice A4 x.f4.length c4) := by unfold World.cell?; rw [hcb2]; rfl
  have k5 : w2.cell? ⟨cb, 5, none⟩ = some (.string x.f5) := by unfold World.cell?; rw [hcb2]; rfl
  have HM2 : Aside0 (H.MapAt H.encS w2 km (setOf ks)) := ⟨HMR.out.below hb2 HMR.out.lt⟩
  have HB2 : Aside0 (Below w.heap.size w w2) := ⟨below_then HBR.out HBR.out.size hb2⟩
  have HG32 := Aside0.mk (Kd.C_below HG3.out hb2)
  have HG42 := Aside0.mk (Kd.C_below HG4.out hb2)
  obtain ⟨y0, y1, y2, y3, y4, y5, y6⟩ := (HWR.out.below hb2).cells
  have hlkh : ∀ s, (Instr.lookup 71 (.map (some h)) (.string s) false).run Tryz.prog w2 = .ok (.bool (has (setOf held) s)) w2 := fun s => by
   rw [← bool_of_true (setOf_true _)]
   exact run_lookup_at keyS Tryz.underlying71 Tryz.underlying9 (HWR.out.below hb2).held zero4 _
  have hlkk : ∀ s, (Instr.lookup 71 (.map (some km)) (.string s) false).run Tryz.prog w2 = .ok (.bool (has (setOf ks) s)) w2 := fun s => by
   rw [← bool_of_true (setOf_true _)]
   exact run_lookup_at keyS Tryz.underlying71 Tryz.underlying9 HM2.out zero4 _
  have HLH := Aside0.mk hlkh
  have HLK := Aside0.mk hlkk
  clear hS' hb2 hcb2 hlkh hlkk
  cases st with
  | false =>
   have hres : proveL ed (l0.map toC) held sl facts 0 = (some j, ks) := by
    have h1 := HP2.out
    rw [HSO.out] at h1
    exact h1.symm
   refine wpIn_cond_true (HF.tmp rfl) (wpIn_exit ?_)
   simp only [Exit.then, Exit.inBlock, ↓reduceIte, Nat.reduceEqDiff, reduceCtorEq, if_false]
   refine wpIn_seq ?_
   refine wpIn_region_k (fun _ => trivial) rfl wideC HF fun K hK => ?_
   iterate 4 (refine OpsK.step rfl rfl rfl ?_; go_simp)
   refine OpsK.nil (hK _ _ fun a9 hf' => ?_)
   clear hK K HF
   have HF : Fr 77 [] [(4, .int .i64 (j : Nat)), (5, .map (some km))] a9 := hf'.sub ⟨rfl, rfl, trivial⟩
   clear hf'
   refine wpIn_ret ?_
   simp only [Exit.noGoto]
   exact HF.ret2 rfl rfl rfl ⟨km, by rw [hres]; rfl, by rw [hres]; exact HM2.out, hkl, HB2.out⟩
  | true =>
   refine wpIn_cond_false (HF.tmp rfl) (wpIn_skip ?_)
   refine wpIn_seq (wpIn_seq ?_)
   refine wpIn_region_k (fun _ => trivial) rfl wideC HF fun K hK => ?_
   iterate 4 (refine OpsK.step rfl rfl rfl ?_; go_simp)
   refine OpsK.nil (hK _ _ fun a' hf' => ?_)
   clear hK K HF
   have HF : Fr 77 [] [(0, .pointer (some ⟨wb, 0, none⟩)), (6, .map (some km)), (20, .slice (some ad1) sl.length c1), (21, .int .i64 (sl.length : Nat)), (22, .int .i64 (j : Nat)), (7, .int .i64 (j : Nat)), (10, .pointer (some ⟨cb, 0, none⟩)), (46, .slice A3 x.f3.length c3), (47, .int .i64 (x.f3.length : Nat)), (48, .int .i64 0)] a' := hf'.sub ⟨rfl, rfl, rfl, rfl, rfl, rfl, rfl, rfl, rfl, rfl, trivial⟩
   clear hf'
   refine wpIn_block (wpIn_loop (fun a wr2 => ∃ n : Nat, n ≤ x.f3.length ∧ Fr 77 [] [(0, .pointer (some ⟨wb, 0, none⟩)), (6, .map (some km)), (20, .slice (some ad1) sl.length c1), (21, .int .i64 (sl.length : Nat)), (22, .int .i64 (j : Nat)), (7, .int .i64 (j : Nat)), (10, .pointer (some ⟨cb, 0, none⟩)), (46, .slice A3 x.f3.length c3), (47, .int .i64 (x.f3.length : Nat)), (48, .int .i64 (n : Nat))] a ∧ (x.f3.take n).all (has (setOf ks)) = true ∧ w2 = wr2)
    (fun a _ => x.f3.length - (intOf (a.eval (.tmp 48))).toNat) ⟨0, Nat.zero_le _, HF, rfl, rfl⟩ ?_)
   clear HF
   rintro a wr2 ⟨n, hn, HF, hal, rfl⟩
   have hmu : x.f3.length - (intOf (a.eval (.tmp 48))).toNat = x.f3.length - n := by rw [HF.tmp (k := 48) rfl]; simp [intOf]
   rw [hmu]
   clear hmu
   have HAL := Aside0.mk hal
   clear hal
   refine wpIn_seq ?_
   by_cases hnl : n < x.f3.length
   ·have hltn : ((n : Nat) : Int) < ((x.f3.length : Nat) : Int) := by omega
    obtain ⟨ad3, hA3, hc3⟩ := Kd.at_string HG32.out (n : Int) (by omega) (by omega)
    cases hA3
    simp only [Int.toNat_natCast] at hc3
    obtain ⟨s, hs⟩ : ∃ s, s = rdOf ByteArray.empty x.f3 (n : Int) := ⟨_, rfl⟩
    rw [← hs] at hc3
    have hsn : s = x.f3[n] := by rw [hs]; simp [rdOf, List.getD_eq_getElem?_getD, List.getElem?_eq_getElem hnl]
    have hlks := HLK.out s
    obtain ⟨bk, hbk⟩ : ∃ bk, bk = has (setOf ks) s := ⟨_, rfl⟩
    rw [← hbk] at hlks
    have htk : (x.f3.take (n + 1)).all (has (setOf ks)) = bk := by rw [all_take _ _ hnl, HAL.out, ← hsn, ← hbk]; simp
    have HTK := Aside0.mk htk
    have hwN := wrapJ (j := n) (by omega)
    have HWN := Aside0.mk hwN
    clear hs hsn hbk htk hwN
    refine wpIn_region_k (fun _ => trivial) rfl wideC HF fun K hK => ?_
    refine OpsK.step rfl rfl rfl ?_
    go_simp
    refine OpsK.nil (hK _ _ fun a' hf' => ?_)
    clear hK K HF
    have HF : Fr 77 [] [(0, .pointer (some ⟨wb, 0, none⟩)), (6, .map (some km)), (20, .slice (some ad1) sl.length c1), (21, .int .i64 (sl.length : Nat)), (22, .int .i64 (j : Nat)), (7, .int .i64 (j : Nat)), (10, .pointer (some ⟨cb, 0, none⟩)), (46, .slice (some ad3) x.f3.length c3), (47, .int .i64 (x.f3.length : Nat)), (48, .int .i64 (n : Nat)), (49, .bool true)] a' := hf'.sub ⟨rfl, rfl, rfl, rfl, rfl, rfl, rfl, rfl, rfl, rfl, rfl, trivial⟩
    clear hf'
    refine wpIn_seq (wpIn_cond_true (HF.tmp rfl) (wpIn_skip ?_))
    refine wpIn_seq (wpIn_block (wpIn_seq ?_))
    refine wpIn_region_k (fun _ => trivial) rfl wideC HF fun K hK => ?_
    iterate 3 (refine OpsK.step rfl rfl rfl ?_; go_simp)
    refine OpsK.nil (hK _ _ fun a' hf' => ?_)
    clear hK K HF
    have HF : Fr 77 [] [(0, .pointer (some ⟨wb, 0, none⟩)), (6, .map (some km)), (20, .slice (some ad1) sl.length c1), (21, .int .i64 (sl.length : Nat)), (22, .int .i64 (j : Nat)), (7, .int .i64 (j : Nat)), (10, .pointer (some ⟨cb, 0, none⟩)), (46, .slice (some ad3) x.f3.length c3), (47, .int .i64 (x.f3.length : Nat)), (48, .int .i64 (n : Nat)), (12, .string s)] a' := hf'.sub ⟨rfl, rfl, rfl, rfl, rfl, rfl, rfl, rfl, rfl, rfl, rfl, trivial⟩
    clear hf'
    refine wpIn_seq ?_
    refine wpIn_region_k (fun _ => trivial) rfl wideC HF fun K hK => ?_
    iterate 4 (refine OpsK.step rfl rfl rfl ?_; go_simp)
    refine OpsK.nil (hK _ _ fun a' hf' => ?_)
    clear hK K HF
    have HF : Fr 77 [] [(0, .pointer (some ⟨wb, 0, none⟩)), (6, .map (some km)), (20, .slice (some ad1) sl.length c1), (21, .int .i64 (sl.length : Nat)), (22, .int .i64 (j : Nat)), (7, .int .i64 (j : Nat)), (10, .pointer (some ⟨cb, 0, none⟩)), (46, .slice (some ad3) x.f3.length c3), (47, .int .i64 (x.f3.length : Nat)), (48, .int .i64 (n : Nat)), (55, .bool (!bk))] a' := hf'.sub ⟨rfl, rfl, rfl, rfl, rfl, rfl, rfl, rfl, rfl, rfl, rfl, trivial⟩
    clear hf'
    cases bk with
    | false =>
     have hres : proveL ed (l0.map toC) held sl facts 0 = (some j, ks) := by
      have h1 := HP2.out
      rw [HSO.out, all_take_false _ _ _ HTK.out] at h1
      exact h1.symm
     refine wpIn_cond_true (HF.tmp rfl) (wpIn_exit ?_)
     simp only [Exit.then, Exit.inBlock, ↓reduceIte, Nat.reduceEqDiff, reduceCtorEq, if_false]
     refine wpIn_seq ?_
     refine wpIn_region_k (fun _ => trivial) rfl wideC HF fun K hK => ?_
     iterate 4 (refine OpsK.step rfl rfl rfl ?_; go_simp)
     refine OpsK.nil (hK _ _ fun a9 hf' => ?_)
     clear hK K HF
     have HF : Fr 77 [] [(4, .int .i64 (j : Nat)), (5, .map (some km))] a9 := hf'.sub ⟨rfl, rfl, trivial⟩
     clear hf'
     refine wpIn_ret ?_
     simp only [Exit.noGoto]
     exact HF.ret2 rfl rfl rfl ⟨km, by rw [hres]; rfl, by rw [hres]; exact HM2.out, hkl, HB2.out⟩
    | true =>
     refine wpIn_cond_false (HF.tmp rfl) (wpIn_skip ?_)
     show Code.wpIn _ _ _ (Code.region 13 _ _) _ _ _
     refine wpIn_region_k (fun _ => trivial) rfl wideC HF fun K hK => ?_
     iterate 2 (refine OpsK.step rfl rfl rfl ?_; go_simp)
     refine OpsK.nil (hK _ _ fun a3 hf' => ?_)
     clear hK K HF
     rw [HWN.out] at hf'
     have HF : Fr 77 [] [(0, .pointer (some ⟨wb, 0, none⟩)), (6, .map (some km)), (20, .slice (some ad1) sl.length c1), (21, .int .i64 (sl.length : Nat)), (22, .int .i64 (j : Nat)), (7, .int .i64 (j : Nat)), (10, .pointer (some ⟨cb, 0, none⟩)), (46, .slice (some ad3) x.f3.length c3), (47, .int .i64 (x.f3.length : Nat)), (48, .int .i64 ((n + 1 : Nat) : Int))] a3 := hf'.sub ⟨rfl, rfl, rfl, rfl, rfl, rfl, rfl, rfl, rfl, rfl, trivial⟩
     clear hf'
     refine ⟨⟨n + 1, by omega, HF, HTK.out, rfl⟩, ?_⟩
     rw [HF.tmp (k := 48) rfl]
     simp only [intOf]
     omega
   ·obtain rfl : n = x.f3.length := by omega
    have hnlt : ¬ ((x.f3.length : Nat) : Int) < ((x.f3.length : Nat) : Int) := by omega
    have hall := HAL.out
    rw [List.take_length] at hall
    have HALL := Aside0.mk hall
    clear hall
    refine wpIn_region_k (fun _ => trivial) rfl wideC HF fun K hK => ?_
    refine OpsK.step rfl rfl rfl ?_
    go_simp
    refine OpsK.nil (hK _ _ fun a' hf' => ?_)
    clear hK K HF
    have HF : Fr 77 [] [(0, .pointer (some ⟨wb, 0, none⟩)), (6, .map (some km)), (20, .slice (some ad1) sl.length c1), (21, .int .i64 (sl.length : Nat)), (22, .int .i64 (j : Nat)), (7, .int .i64 (j : Nat)), (10, .pointer (some ⟨cb, 0, none⟩)), (49, .bool false)] a' := hf'.sub ⟨rfl, rfl, rfl, rfl, rfl, rfl, rfl, rfl, trivial⟩
    clear hf'
    refine wpIn_seq (wpIn_cond_false (HF.tmp rfl) (wpIn_exit ?_))
    simp only [Exit.then, Exit.inBlock, ↓reduceIte]
    clear hnlt
    refine wpIn_seq (wpIn_seq ?_)
    refine wpIn_region_k (fun _ => trivial) rfl wideC HF fun K hK => ?_
    iterate 4 (refine OpsK.step rfl rfl rfl ?_; go_simp)
    refine OpsK.nil (hK _ _ fun a' hf' => ?_)
    clear hK K HF
    have HF : Fr 77 [] [(0, .pointer (some ⟨wb, 0, none⟩)), (6, .map (some km)), (20, .slice (some ad1) sl.length c1), (21, .int .i64 (sl.length : Nat)), (22, .int .i64 (j : Nat)), (7, .int .i64 (j : Nat)), (10, .pointer (some ⟨cb, 0, none⟩)), (58, .slice A4 x.f4.length c4), (59, .int .i64 (x.f4.length : Nat)), (60, .int .i64 0)] a' := hf'.sub ⟨rfl, rfl, rfl, rfl, rfl, rfl, rfl, rfl, rfl, rfl, trivial⟩
    clear hf'
    refine wpIn_block (wpIn_loop (fun a wr2 => ∃ n : Nat, n ≤ x.f4.length ∧ Fr 77 [] [(0, .pointer (some ⟨wb, 0, none⟩)), (6, .map (some km)), (20, .slice (some ad1) sl.length c1), (21, .int .i64 (sl.length : Nat)), (22, .int .i64 (j : Nat)), (7, .int .i64 (j : Nat)), (10, .pointer (some ⟨cb, 0, none⟩)), (58, .slice A4 x.f4.length c4), (59, .int .i64 (x.f4.length : Nat)), (60, .int .i64 (n : Nat))] a ∧ (x.f4.take n).all (fun s => !has (setOf held) s) = true ∧ w2 = wr2)
     (fun a _ => x.f4.length - (intOf (a.eval (.tmp 60))).toNat) ⟨0, Nat.zero_le _, HF, rfl, rfl⟩ ?_)
    clear HF
    rintro a wr2 ⟨n, hn, HF, hal, rfl⟩
    have hmu : x.f4.length - (intOf (a.eval (.tmp 60))).toNat = x.f4.length - n := by rw [HF.tmp (k := 60) rfl]; simp [intOf]
    rw [hmu]
    clear hmu HAL
    have HAL := Aside0.mk hal
    clear hal
    refine wpIn_seq ?_
    by_cases hnl : n < x.f4.length
    ·have hltn : ((n : Nat) : Int) < ((x.f4.length : Nat) : Int) := by omega
     obtain ⟨ad4, hA4, hc4⟩ := Kd.at_string HG42.out (n : Int) (by omega) (by omega)
     cases hA4
     simp only [Int.toNat_natCast] at hc4
     obtain ⟨s, hs⟩ : ∃ s, s = rdOf ByteArray.empty x.f4 (n : Int) := ⟨_, rfl⟩
     rw [← hs] at hc4
     have hsn : s = x.f4[n] := by rw [hs]; simp [rdOf, List.getD_eq_getElem?_getD, List.getElem?_eq_getElem hnl]
     have hlks := HLH.out s
     obtain ⟨bk, hbk⟩ : ∃ bk, bk = has (setOf held) s := ⟨_, rfl⟩
     rw [← hbk] at hlks
     have htk : (x.f4.take (n + 1)).all (fun s => !has (setOf held) s) = !bk := by rw [all_take _ _ hnl, HAL.out, ← hsn, ← hbk]; simp
     have HTK := Aside0.mk htk
     have hwN := wrapJ (j := n) (by omega)
     have HWN := Aside0.mk hwN
     clear hs hsn hbk htk hwN
     refine wpIn_region_k (fun _ => trivial) rfl wideC HF fun K hK => ?_
     refine OpsK.step rfl rfl rfl ?_
     go_simp
     refine OpsK.nil (hK _ _ fun a' hf' => ?_)
     clear hK K HF
     have HF : Fr 77 [] [(0, .pointer (some ⟨wb, 0, none⟩)), (6, .map (some km)), (20, .slice (some ad1) sl.length c1), (21, .int .i64 (sl.length : Nat)), (22, .int .i64 (j : Nat)), (7, .int .i64 (j : Nat)), (10, .pointer (some ⟨cb, 0, none⟩)), (58, .slice (some ad4) x.f4.length c4), (59, .int .i64 (x.f4.length : Nat)), (60, .int .i64 (n : Nat)), (61, .bool true)] a' := hf'.sub ⟨rfl, rfl, rfl, rfl, rfl, rfl, rfl, rfl, rfl, rfl, rfl, trivial⟩
     clear hf'
     refine wpIn_seq (wpIn_cond_true (HF.tmp rfl) (wpIn_skip ?_))
     refine wpIn_seq (wpIn_block (wpIn_seq ?_))
     refine wpIn_region_k (fun _ => trivial) rfl wideC HF fun K hK => ?_
     iterate 3 (refine OpsK.step rfl rfl rfl ?_; go_simp)
     refine OpsK.nil (hK _ _ fun a' hf' => ?_)
     clear hK K HF
     have HF : Fr 77 [] [(0, .pointer (some ⟨wb, 0, none⟩)), (6, .map (some km)), (20, .slice (some ad1) sl.length c1), (21, .int .i64 (sl.length : Nat)), (22, .int .i64 (j : Nat)), (7, .int .i64 (j : Nat)), (10, .pointer (some ⟨cb, 0, none⟩)), (58, .slice (some ad4) x.f4.length c4), (59, .int .i64 (x.f4.length : Nat)), (60, .int .i64 (n : Nat)), (14, .string s)] a' := hf'.sub ⟨rfl, rfl, rfl, rfl, rfl, rfl, rfl, rfl, rfl, rfl, rfl, trivial⟩
     clear hf'
     refine wpIn_seq ?_
     refine wpIn_region_k (fun _ => trivial) rfl wideC HF fun K hK => ?_
     iterate 6 (refine OpsK.step rfl rfl rfl ?_; go_simp)
     refine OpsK.nil (hK _ _ fun a' hf' => ?_)
     clear hK K HF
     have HF : Fr 77 [] [(0, .pointer (some ⟨wb, 0, none⟩)), (6, .map (some km)), (20, .slice (some ad1) sl.length c1), (21, .int .i64 (sl.length : Nat)), (22, .int .i64 (j : Nat)), (7, .int .i64 (j : Nat)), (10, .pointer (some ⟨cb, 0, none⟩)), (58, .slice (some ad4) x.f4.length c4), (59, .int .i64 (x.f4.length : Nat)), (60, .int .i64 (n : Nat)), (69, .bool bk)] a' := hf'.sub ⟨rfl, rfl, rfl, rfl, rfl, rfl, rfl, rfl, rfl, rfl, rfl, trivial⟩
     clear hf'
     cases bk with
     | true =>
      have hres : proveL ed (l0.map toC) held sl facts 0 = (some j, ks) := by
       have h1 := HP2.out
       rw [HSO.out, HALL.out, List.any_eq_not_all_not, all_take_false _ _ _ HTK.out] at h1
       exact h1.symm
      refine wpIn_cond_true (HF.tmp rfl) (wpIn_exit ?_)
      simp only [Exit.then, Exit.inBlock, ↓reduceIte, Nat.reduceEqDiff, reduceCtorEq, if_false]
      refine wpIn_seq ?_
      refine wpIn_region_k (fun _ => trivial) rfl wideC HF fun K hK => ?_
      iterate 4 (refine OpsK.step rfl rfl rfl ?_; go_simp)
      refine OpsK.nil (hK _ _ fun a9 hf' => ?_)
      clear hK K HF
      have HF : Fr 77 [] [(4, .int .i64 (j : Nat)), (5, .map (some km))] a9 := hf'.sub ⟨rfl, rfl, trivial⟩
      clear hf'
      refine wpIn_ret ?_
      simp only [Exit.noGoto]
      exact HF.ret2 rfl rfl rfl ⟨km, by rw [hres]; rfl, by rw [hres]; exact HM2.out, hkl, HB2.out⟩
     | false =>
      refine wpIn_cond_false (HF.tmp rfl) (wpIn_skip ?_)
      show Code.wpIn _ _ _ (Code.region 18 _ _) _ _ _
      refine wpIn_region_k (fun _ => trivial) rfl wideC HF fun K hK => ?_
      iterate 2 (refine OpsK.step rfl rfl rfl ?_; go_simp)
      refine OpsK.nil (hK _ _ fun a3 hf' => ?_)
      clear hK K HF
      rw [HWN.out] at hf'
      have HF : Fr 77 [] [(0, .pointer (some ⟨wb, 0, none⟩)), (6, .map (some km)), (20, .slice (some ad1) sl.length c1), (21, .int .i64 (sl.length : Nat)), (22, .int .i64 (j : Nat)), (7, .int .i64 (j : Nat)), (10, .pointer (some ⟨cb, 0, none⟩)), (58, .slice (some ad4) x.f4.length c4), (59, .int .i64 (x.f4.length : Nat)), (60, .int .i64 ((n + 1 : Nat) : Int))] a3 := hf'.sub ⟨rfl, rfl, rfl, rfl, rfl, rfl, rfl, rfl, rfl, rfl, trivial⟩
      clear hf'
      refine ⟨⟨n + 1, by omega, HF, HTK.out, rfl⟩, ?_⟩
      rw [HF.tmp (k := 60) rfl]
      simp only [intOf]
      omega
    ·obtain rfl : n = x.f4.length := by omega
     have hnlt : ¬ ((x.f4.length : Nat) : Int) < ((x.f4.length : Nat) : Int) := by omega
     have hall := HAL.out
     rw [List.take_length] at hall
     have HALU := Aside0.mk hall
     clear hall
     refine wpIn_region_k (fun _ => trivial) rfl wideC HF fun K hK => ?_
     refine OpsK.step rfl rfl rfl ?_
     go_simp
     refine OpsK.nil (hK _ _ fun a' hf' => ?_)
     clear hK K HF
     have HF : Fr 77 [] [(0, .pointer (some ⟨wb, 0, none⟩)), (6, .map (some km)), (20, .slice (some ad1) sl.length c1), (21, .int .i64 (sl.length : Nat)), (22, .int .i64 (j : Nat)), (7, .int .i64 (j : Nat)), (10, .pointer (some ⟨cb, 0, none⟩)), (61, .bool false)] a' := hf'.sub ⟨rfl, rfl, rfl, rfl, rfl, rfl, rfl, rfl, trivial⟩
     clear hf'
     refine wpIn_seq (wpIn_cond_false (HF.tmp rfl) (wpIn_exit ?_))
     simp only [Exit.then, Exit.inBlock, ↓reduceIte]
     clear hnlt
     have hup := run_mapUpdate_at (P := Tryz.prog) keyS Tryz.underlying71 Tryz.underlying9 HM2.out x.f5 (.bool true)
     rw [← setOf_snoc] at hup
     simp only [H.encS] at hup
     have hm3 : H.MapAt H.encS (putMap H.encS w2 km (setOf (ks ++ [x.f5]))) km (setOf (ks ++ [x.f5])) := HM2.out.put _
     have hb3 : Below w.heap.size w (putMap H.encS w2 km (setOf (ks ++ [x.f5]))) := below_putMap HB2.out hkl _
     obtain ⟨w3, hw3⟩ : ∃ w3, w3 = putMap H.encS w2 km (setOf (ks ++ [x.f5])) := ⟨_, rfl⟩
     rw [← hw3] at hup hm3 hb3
     have HM3 := Aside0.mk hm3
     have HB3 := Aside0.mk hb3
     clear hw3 hm3 hb3
     refine wpIn_region_k (fun _ => trivial) rfl wideC HF fun K hK => ?_
     iterate 5 (refine OpsK.step rfl rfl rfl ?_; go_simp)
     refine OpsK.nil (hK _ _ fun a' hf' => ?_)
     clear hK K HF
     have HF : Fr 77 [] [(0, .pointer (some ⟨wb, 0, none⟩)), (6, .map (some km)), (20, .slice (some ad1) sl.length c1), (21, .int .i64 (sl.length : Nat)), (7, .int .i64 (-1)), (22, .int .i64 (j : Nat))] a' := hf'.sub ⟨rfl, rfl, rfl, rfl, rfl, rfl, trivial⟩
     clear hf'
     show Code.wpIn _ _ _ (Code.region 20 _ _) _ _ _
     refine wpIn_region_k (fun _ => trivial) rfl wideC HF fun K hK => ?_
     iterate 2 (refine OpsK.step rfl rfl rfl ?_; go_simp)
     refine OpsK.nil (hK _ _ fun a3 hf' => ?_)
     clear hK K HF
     rw [HWJ.out] at hf'
     have HF : Fr 77 [] [(0, .pointer (some ⟨wb, 0, none⟩)), (6, .map (some km)), (20, .slice (some ad1) sl.length c1), (21, .int .i64 (sl.length : Nat)), (7, .int .i64 (-1)), (22, .int .i64 ((j + 1 : Nat) : Int))] a3 := hf'.sub ⟨rfl, rfl, rfl, rfl, rfl, rfl, trivial⟩
     clear hf'
     refine ⟨⟨j + 1, ks ++ [x.f5], by omega, HF, ?_, HM3.out, HB3.out⟩, ?_⟩
     ·have h1 := HP2.out
      rw [HSO.out, HALL.out, List.any_eq_not_all_not, HALU.out, HAT.out] at h1
      exact h1
     ·rw [HF.tmp (k := 22) rfl]
      simp only [intOf]
      omega
 ·obtain rfl : j = sl.length := by omega
  have hnlt : ¬ ((sl.length : Nat) : Int) < ((sl.length : Nat) : Int) := by omega
  have hres : proveL ed (l0.map toC) held sl facts 0 = (none, ks) := by
   have h1 := HPR.out
   rw [List.drop_length] at h1
   exact h1.symm
  have HRES := Aside0.mk hres
  clear hres
  refine wpIn_region_k (fun _ => trivial) rfl wideC HF fun K hK => ?_
  refine OpsK.step rfl rfl rfl ?_
  go_simp
  refine OpsK.nil (hK _ _ fun a' hf' => ?_)
  clear hK K HF
  have HF : Fr 77 [] [(0, .pointer (some ⟨wb, 0, none⟩)), (6, .map (some km)), (7, .int .i64 (-1)), (23, .bool false)] a' := hf'.sub ⟨rfl, rfl, rfl, rfl, trivial⟩
  clear hf'
  refine wpIn_seq (wpIn_cond_false (HF.tmp rfl) (wpIn_exit ?_))
  simp only [Exit.then, Exit.inBlock, ↓reduceIte, Nat.reduceEqDiff, reduceCtorEq, if_false]
  refine wpIn_seq ?_
  refine wpIn_region_k (fun _ => trivial) rfl wideC HF fun K hK => ?_
  iterate 4 (refine OpsK.step rfl rfl rfl ?_; go_simp)
  refine OpsK.nil (hK _ _ fun a9 hf' => ?_)
  clear hK K HF
  have HF : Fr 77 [] [(4, .int .i64 (-1)), (5, .map (some km))] a9 := hf'.sub ⟨rfl, rfl, trivial⟩
  clear hf'
  refine wpIn_ret ?_
  simp only [Exit.noGoto]
  exact HF.ret2 rfl rfl rfl ⟨km, by rw [HRES.out]; rfl, by rw [HRES.out]; exact HMR.out, hkl, HBR.out⟩
end
section
open Prot (heldOf roundL roundP addL addOne mkLevel mkLevels at_ firesB Good Fits)
attribute [local go_sem] slk sget sput uponK_value uponK_skip uponK_enter
theorem R_of_own {w : World} {base : Nat} {v : Value} {xs : List ByteArray} (h : w.ownsRow base 9 1 v xs.length (xs.map Value.string)) : Kd.R Kd.string 9 w base (fun _ => True) v xs :=
 ⟨fun _ _ => trivial, _, h, Kd.reps_scalar xs⟩
end
end Go.Proofs.YtlhkeohcickiaaaGreatDoor.E
namespace Go.Proofs.YtlhkeohcickiaaaGreatDoor.H
open Go Go.RowKit
section
inductive Plan
 | nil
 | read (i : Nat) (r : Plan)
 | call (i : Nat) (r : Plan)
 | both (i j : Nat) (r s : Plan)
 | three (i j k : Nat) (r s t : Plan)
def Plan.len : Plan → Nat
 | .nil => 0
 | .read _ r => r.len + 1
 | .call _ r => r.len + 1
 | .both _ _ r _ => r.len + 1
 | .three _ _ _ r _ _ => r.len + 1
def planOk (md : Region.Mode) (ops : Array Oper) : Plan → Array Bool → Bool
 | .nil, listed => (Region.ready md ops listed).isEmpty
 | .call i r, listed => (Region.ready md ops listed == [i]) && planOk md ops r (listed.setIfInBounds i true)
 | .both i j r s, listed => (Region.ready md ops listed == [i, j]) && (r.len == s.len) && planOk md ops r (listed.setIfInBounds i true) && planOk md ops s (listed.setIfInBounds j true)
 | .three i j k r s t, listed => (Region.ready md ops listed == [i, j, k]) && (r.len == s.len) && (r.len == t.len) && planOk md ops r (listed.setIfInBounds i true) && planOk md ops s (listed.setIfInBounds j true) && planOk md ops t (listed.setIfInBounds k true)
 | .read i r, listed => (Region.ready md ops listed).contains i && (Region.free md ops listed i && planOk md ops r (listed.setIfInBounds i true))
section
variable {n : Nat} {P : Program} {N : Nat} {ds : List Deferred} {Q : Exit → Act → World → Prop} {Pn : List PanicEntry → World → Prop} {S : World → Prop}
def PlanK (P : Program) (N : Nat) (Pn : List PanicEntry → World → Prop) (S : World → Prop) (ops : List Oper) : Plan → Slots → World → (Slots → World → Prop) → Prop
 | .nil, l, w, K => K l w
 | .call i r, l, w, K => ∃ o, ops[i]? = some o ∧ plainG N o = true ∧ swant ops l o = some true ∧ sknow l o = true ∧ uponK P Pn (fun v w' => S w' ∧ PlanK P N Pn S ops r (sput l o.dst v) w' K) ((execOp (slk l) o).run P w)
 | .both i j r s, l, w, K => (∃ o, ops[i]? = some o ∧ plainG N o = true ∧ swant ops l o = some true ∧ sknow l o = true ∧ uponK P Pn (fun v w' => S w' ∧ PlanK P N Pn S ops r (sput l o.dst v) w' K) ((execOp (slk l) o).run P w)) ∧
   (∃ o, ops[j]? = some o ∧ plainG N o = true ∧ swant ops l o = some true ∧ sknow l o = true ∧ uponK P Pn (fun v w' => S w' ∧ PlanK P N Pn S ops s (sput l o.dst v) w' K) ((execOp (slk l) o).run P w))
 | .three i j k r s t, l, w, K => (∃ o, ops[i]? = some o ∧ plainG N o = true ∧ swant ops l o = some true ∧ sknow l o = true ∧ uponK P Pn (fun v w' => S w' ∧ PlanK P N Pn S ops r (sput l o.dst v) w' K) ((execOp (slk l) o).run P w)) ∧ (∃ o, ops[j]? = some o ∧ plainG N o = true ∧ swant ops l o = some true ∧ sknow l o = true ∧ uponK P Pn (fun v w' => S w' ∧ PlanK P N Pn S ops s (sput l o.dst v) w' K) ((execOp (slk l) o).run P w)) ∧ (∃ o, ops[k]? = some o ∧ plainG N o = true ∧ swant ops l o = some true ∧ sknow l o = true ∧ uponK P Pn (fun v w' => S w' ∧ PlanK P N Pn S ops t (sput l o.dst v) w' K) ((execOp (slk l) o).run P w))
 | .read i r, l, w, K => ∃ o v, ops[i]? = some o ∧ plainG N o = true ∧ ((swant ops l o = some true ∧ sknow l o = true ∧ ∀ w, S w → PureRes v w ((execOp (slk l) o).run P w)) ∨ (swant ops l o = some false ∧ v = undef)) ∧ PlanK P N Pn S ops r (sput l o.dst v) w K
theorem planCall {md : Region.Mode} {ops : List Oper} (hP : ∀ c a w, a.defers = ds → Pn c w → Q (.panic c) a w) (i len : Nat) (listed : Array Bool) (l : Slots) (a : Act) (w : World) (hf : Fr N ds l a) (G : Slots → World → Prop)
  (hG : ∀ l' a' w', Fr N ds l' a' → S w' → G l' w' → AllM n P md ops.toArray Q S len (listed.setIfInBounds i true) a' w')
  (h : ∃ o, ops[i]? = some o ∧ plainG N o = true ∧ swant ops l o = some true ∧ sknow l o = true ∧ uponK P Pn (fun v w' => S w' ∧ G (sput l o.dst v) w') ((execOp (slk l) o).run P w)) :
  wpOpIn Fence.wide n P ops.toArray Q i (AllM n P md ops.toArray Q S len (listed.setIfInBounds i true)) a w := by
 obtain ⟨o, ho, hp, hw, hk, hu⟩ := h
 unfold wpOpIn
 have ho' : ops.toArray[i]? = some o := by simpa using ho
 simp only [ho', hf.wanted hw, if_true, Oper.wpIn]
 refine ⟨fun f _ => trivial, ?_⟩
 rw [Oper.semAt_eq _ _ _ (plainG_defer hp), hf.exec hk (plainG_select hp)]
 unfold uponK at hu
 split at hu
 ·rename_i v w' hr'
  rw [hr']
  exact hG _ _ _ (hf.put o.dst (plainG_dst hp) v) hu.1 hu.2
 ·rename_i w' hr'
  rw [hr']
  exact hG _ _ _ (hf.put o.dst (plainG_dst hp) undef) hu.1 hu.2
 ·rename_i f args w' hr'
  rw [hr']
  refine ⟨fun hd => (by cases hd), callsIn_wide.2 (hu.mono ?_)⟩
  intro e w'' hq
  cases e with
  | returned v => exact hG _ _ _ (hf.put o.dst (plainG_dst hp) v) hq.1 hq.2
  | panicked c => exact hP c a w'' hf.defs hq
  | outgrown => exact hq.elim
 ·exact hu.elim
theorem PlanK.sound {md : Region.Mode} {ops : List Oper} (hs : Region.noSelect ops.toArray = true) (hd : noDef ops.toArray = true) (hQ : ∀ c a a' w, a'.defers = a.defers → Q (.panic c) a w → Q (.panic c) a' w) (hP : ∀ c a w, a.defers = ds → Pn c w → Q (.panic c) a w) :
  ∀ (pl : Plan) (listed : Array Bool) (l : Slots) (a : Act) (w : World), planOk md ops.toArray pl listed = true → Fr N ds l a → S w →
   PlanK P N Pn S ops pl l w (fun l' w' => ∀ a', Fr N ds l' a' → Q .normal a' w') → AllM n P md ops.toArray Q S pl.len listed a w
 | .nil, listed, l, a, w, hok, hf, hS, h => ⟨hS, List.isEmpty_iff.1 hok, h a hf⟩
 | .call i r, listed, l, a, w, hok, hf, hS, h => by
  simp only [planOk, Bool.and_eq_true, beq_iff_eq] at hok
  obtain ⟨hr, hok⟩ := hok
  refine ⟨hS, fun h0 => (by rw [h0] at hr; cases hr), fun j hj => ?_⟩
  rw [hr] at hj
  obtain rfl := List.mem_singleton.1 hj
  exact planCall hP j r.len listed l a w hf _ (fun l' a' w' hf' hS' hG => PlanK.sound hs hd hQ hP r _ _ _ _ hok hf' hS' hG) h
 | .both i j r s, listed, l, a, w, hok, hf, hS, h => by
  simp only [planOk, Bool.and_eq_true, beq_iff_eq] at hok
  obtain ⟨⟨⟨hr, hlen⟩, hok1⟩, hok2⟩ := hok
  refine ⟨hS, fun h0 => (by rw [h0] at hr; cases hr), fun k hk => ?_⟩
  rw [hr] at hk
  rcases List.mem_cons.1 hk with rfl | hk
  ·exact planCall hP k r.len listed l a w hf _ (fun l' a' w' hf' hS' hG => PlanK.sound hs hd hQ hP r _ _ _ _ hok1 hf' hS' hG) h.1
  ·obtain rfl := List.mem_singleton.1 hk
   rw [hlen]
   exact planCall hP k s.len listed l a w hf _ (fun l' a' w' hf' hS' hG => PlanK.sound hs hd hQ hP s _ _ _ _ hok2 hf' hS' hG) h.2
 | .three i j k r s t, listed, l, a, w, hok, hf, hS, h => by
  simp only [planOk, Bool.and_eq_true, beq_iff_eq] at hok
  obtain ⟨⟨⟨⟨⟨hr, hlen⟩, hlen2⟩, hok1⟩, hok2⟩, hok3⟩ := hok
  refine ⟨hS, fun h0 => (by rw [h0] at hr; cases hr), fun q hq => ?_⟩
  rw [hr] at hq
  rcases List.mem_cons.1 hq with rfl | hq
  ·exact planCall hP q r.len listed l a w hf _ (fun l' a' w' hf' hS' hG => PlanK.sound hs hd hQ hP r _ _ _ _ hok1 hf' hS' hG) h.1
  ·rcases List.mem_cons.1 hq with rfl | hq
   ·rw [hlen]
    exact planCall hP q s.len listed l a w hf _ (fun l' a' w' hf' hS' hG => PlanK.sound hs hd hQ hP s _ _ _ _ hok2 hf' hS' hG) h.2.1
   ·obtain rfl := List.mem_singleton.1 hq
    rw [hlen2]
    exact planCall hP q t.len listed l a w hf _ (fun l' a' w' hf' hS' hG => PlanK.sound hs hd hQ hP t _ _ _ _ hok3 hf' hS' hG) h.2.2
 | .read i r, listed, l, a, w, hok, hf, hS, h => by
  obtain ⟨o, v, ho, hp, hv, hr⟩ := h
  simp only [planOk, Bool.and_eq_true] at hok
  obtain ⟨hrd, hfr, hok⟩ := hok
  have ho' : ops.toArray[i]? = some o := by simpa using ho
  refine AllM.take ho' (Region.noSelect_spec hs) (noDef_spec hd) hQ r.len listed a w (Region.free_spec ho' hfr) (by simpa using hrd) ?_ (PlanK.sound hs hd hQ hP r _ _ _ _ hok (hf.put o.dst (plainG_dst hp) v) hS hr)
  rcases hv with ⟨hw, hk, hv⟩ | ⟨hw, rfl⟩
  ·refine .inl ⟨hf.wanted hw, ?_⟩
   rw [hf.exec hk (plainG_select hp)]
   exact hv
  ·exact .inr ⟨hf.wanted hw, rfl⟩
theorem wpIn_region_plan {id : Nat} {r : List Oper} {l : Slots} {a : Act} {w : World} (hm : P.follows .mixedOrders = true) (hf : Fr N ds l a) (pl : Plan) (S : World → Prop) (hS : S { w with drawn := w.drawn + 1 }) (hlen : pl.len = r.length)
  (hok : planOk .any r.toArray pl (Array.replicate r.toArray.size false) = true) (hs : Region.noSelect r.toArray = true) (hd : noDef r.toArray = true) (hQ : ∀ c a a' w, a'.defers = a.defers → Q (.panic c) a w → Q (.panic c) a' w)
  (h : ∀ (K : Slots → World → Prop) (Pn : List PanicEntry → World → Prop), (∀ l' w', (∀ a', Fr N ds l' a' → Q .normal a' w') → K l' w') → (∀ c w', (∀ a', a'.defers = ds → Q (.panic c) a' w') → Pn c w') → PlanK P N Pn S r pl l { w with drawn := w.drawn + 1 } K) :
  (Code.region id r.toArray true).wpIn Fence.wide n P Q a w := by
 refine wpIn_region_any hm ?_
 have := AllM.sound _ _ _ _ (PlanK.sound (n := n) (md := .any) (Pn := fun c w' => ∀ a', a'.defers = ds → Q (.panic c) a' w') hs hd hQ (fun _ a _ ha h => h a ha) pl (Array.replicate r.toArray.size false) l a _ hok hf hS (h _ _ (fun _ _ h => h) fun _ _ h => h))
 rw [hlen] at this
 simpa using this
theorem PlanK.call {ops : List Oper} {i : Nat} {o : Oper} {r : Plan} {l : Slots} {w : World} {K : Slots → World → Prop} (ho : ops[i]? = some o) (hp : plainG N o = true) (hw : swant ops l o = some true) (hk : sknow l o = true)
  (h : uponK P Pn (fun v w' => S w' ∧ PlanK P N Pn S ops r (sput l o.dst v) w' K) ((execOp (slk l) o).run P w)) : PlanK P N Pn S ops (.call i r) l w K := ⟨o, ho, hp, hw, hk, h⟩
theorem PlanK.both {ops : List Oper} {i j : Nat} {r s : Plan} {l : Slots} {w : World} {K : Slots → World → Prop} (h1 : PlanK P N Pn S ops (.call i r) l w K) (h2 : PlanK P N Pn S ops (.call j s) l w K) : PlanK P N Pn S ops (.both i j r s) l w K := ⟨h1, h2⟩
theorem PlanK.three {ops : List Oper} {i j k : Nat} {r s t : Plan} {l : Slots} {w : World} {K : Slots → World → Prop} (h1 : PlanK P N Pn S ops (.call i r) l w K) (h2 : PlanK P N Pn S ops (.call j s) l w K) (h3 : PlanK P N Pn S ops (.call k t) l w K) : PlanK P N Pn S ops (.three i j k r s t) l w K := ⟨h1, h2, h3⟩
theorem PlanK.read {ops : List Oper} {i : Nat} {o : Oper} {r : Plan} {l : Slots} {w : World} {K : Slots → World → Prop} (v : Value) (ho : ops[i]? = some o) (hp : plainG N o = true) (hw : swant ops l o = some true) (hk : sknow l o = true)
  (hv : ∀ w, S w → PureRes v w ((execOp (slk l) o).run P w)) (h : PlanK P N Pn S ops r (sput l o.dst v) w K) : PlanK P N Pn S ops (.read i r) l w K := ⟨o, v, ho, hp, .inl ⟨hw, hk, hv⟩, h⟩
theorem PlanK.nil {ops : List Oper} {l : Slots} {w : World} {K : Slots → World → Prop} (h : K l w) : PlanK P N Pn S ops .nil l w K := h
end
end
end Go.Proofs.YtlhkeohcickiaaaGreatDoor.H
namespace Go.Proofs.YtlhkeohcickiaaaGreatDoor.L
open Go.Proofs
section
open Go.Shelf
def Tryz.keys76_ren : Go.Shelf.Ren := ⟨fun | 7 => 76 | 10 => 98 | n => n, fun | 23 => 71 | 26 => 9 | 3 => 4 | 28 => 110 | 0 => 0 | 27 => 109 | 33 => 66 | 4 => 4 | n => n, fun | n => n⟩
theorem Tryz.keys76 : Go.Proofs.SlLaysZ.n7 Tryz.prog Tryz.keys76_ren := {
 mixed := by kernel_rfl
 f7 := ⟨Tryz.f76.name, by decide, Tryz.func76.trans (congrArg some (by kernel_rfl))⟩
 f10 := ⟨Tryz.f98.name, by decide, Tryz.func98.trans (congrArg some (by kernel_rfl))⟩
 t0 := Tryz.underlying0
 a0 := Tryz.isAgg0
 z0 := Tryz.sizeOf0
 v0 := Tryz.zeroValue0
 t4 := Tryz.underlying4
 a4 := Tryz.isAgg4
 z4 := Tryz.sizeOf4
 v4 := Tryz.zeroValue4
 t23 := Tryz.underlying71
 a23 := Tryz.isAgg71
 z23 := Tryz.sizeOf71
 v23 := Tryz.zeroValue71
 t26 := Tryz.underlying9
 a26 := Tryz.isAgg9
 z26 := Tryz.sizeOf9
 v26 := Tryz.zeroValue9
 t27 := Tryz.underlying109
 a27 := Tryz.isAgg109
 z27 := Tryz.sizeOf109
 v27 := Tryz.zeroValue109
 t28 := Tryz.underlying110
 a28 := Tryz.isAgg110
 z28 := Tryz.sizeOf110
 v28 := Tryz.zeroValue110
 t33 := Tryz.underlying66
 a33 := Tryz.isAgg66
 z33 := Tryz.sizeOf66
 v33 := Tryz.zeroValue66 }
def Tryz.sorted75_ren : Go.Shelf.Ren := ⟨fun | 6 => 75 | 8 => 96 | 9 => 97 | 11 => 107 | 13 => 109 | 12 => 108 | 23 => 124 | 24 => 125 | 14 => 115 | 15 => 116 | 16 => 117 | 17 => 118 | 18 => 119 | 19 => 120 | 20 => 121 | 21 => 122 | 22 => 123 | 25 => 130 | 26 => 131 | 27 => 132 | 28 => 133 | 29 => 134 | 30 => 135 | 31 => 137 | n => n, fun | 26 => 9 | 28 => 110 | 24 => 23 | 0 => 0 | 3 => 3 | 37 => 139 | 48 => 151 | 50 => 153 | 4 => 4 | 40 => 144 | 39 => 143 | 45 => 115 | 5 => 5 | 9 => 9 | 51 => 162 | 55 => 166 | 57 => 168 | 58 => 169 | 33 => 66 | n => n, fun | n => n⟩
theorem Tryz.sorted75 : Go.Proofs.SlLaysZ.n6 Tryz.prog Tryz.sorted75_ren := {
 mixed := by kernel_rfl
 f6 := ⟨Tryz.f75.name, by decide, Tryz.func75.trans (congrArg some (by kernel_rfl))⟩
 f8 := ⟨Tryz.f96.name, by decide, Tryz.func96.trans (congrArg some (by kernel_rfl))⟩
 f11 := ⟨Tryz.f107.name, by decide, Tryz.func107.trans (congrArg some (by kernel_rfl))⟩
 t0 := Tryz.underlying0
 a0 := Tryz.isAgg0
 z0 := Tryz.sizeOf0
 v0 := Tryz.zeroValue0
 t24 := Tryz.underlying23
 a24 := Tryz.isAgg23
 z24 := Tryz.sizeOf23
 v24 := Tryz.zeroValue23
 t26 := Tryz.underlying9
 a26 := Tryz.isAgg9
 z26 := Tryz.sizeOf9
 v26 := Tryz.zeroValue9
 t28 := Tryz.underlying110
 a28 := Tryz.isAgg110
 z28 := Tryz.sizeOf110
 v28 := Tryz.zeroValue110
 i26 := by kernel_rfl }
def Tryz.sort97_ren : Go.Shelf.Ren := ⟨fun | 6 => 97 | 8 => 109 | 9 => 108 | 19 => 124 | 20 => 125 | 21 => 115 | 22 => 116 | 23 => 117 | 24 => 118 | 25 => 119 | 26 => 120 | 27 => 121 | 28 => 122 | 29 => 123 | 36 => 130 | 31 => 131 | 32 => 132 | 37 => 133 | 38 => 134 | 39 => 135 | 41 => 137 | n => n, fun | 27 => 23 | 29 => 9 | 3 => 3 | 32 => 139 | 26 => 23 | 0 => 0 | 44 => 151 | 46 => 153 | 4 => 4 | 36 => 144 | 35 => 143 | 41 => 115 | 5 => 5 | 9 => 9 | 53 => 162 | 57 => 166 | 63 => 168 | 64 => 169 | n => n, fun | n => n⟩
theorem Tryz.sort97 : Go.Proofs.SlLaysM.n6 Tryz.prog Tryz.sort97_ren := {
 mixed := by kernel_rfl
 f6 := ⟨Tryz.f97.name, by decide, Tryz.func97.trans (congrArg some (by kernel_rfl))⟩
 f8 := Tryz.func109.trans (congrArg some (by kernel_rfl))
 f9 := ⟨Tryz.f108.name, by decide, Tryz.func108.trans (congrArg some (by kernel_rfl))⟩
 f19 := Tryz.func124.trans (congrArg some (by kernel_rfl))
 f20 := Tryz.func125.trans (congrArg some (by kernel_rfl))
 f21 := ⟨Tryz.f115.name, by decide, Tryz.func115.trans (congrArg some (by kernel_rfl))⟩
 f22 := ⟨Tryz.f116.name, by decide, Tryz.func116.trans (congrArg some (by kernel_rfl))⟩
 f23 := ⟨Tryz.f117.name, by decide, Tryz.func117.trans (congrArg some (by kernel_rfl))⟩
 f24 := ⟨Tryz.f118.name, by decide, Tryz.func118.trans (congrArg some (by kernel_rfl))⟩
 f25 := ⟨Tryz.f119.name, by decide, Tryz.func119.trans (congrArg some (by kernel_rfl))⟩
 f26 := ⟨Tryz.f120.name, by decide, Tryz.func120.trans (congrArg some (by kernel_rfl))⟩
 f27 := ⟨Tryz.f121.name, by decide, Tryz.func121.trans (congrArg some (by kernel_rfl))⟩
 f28 := ⟨Tryz.f122.name, by decide, Tryz.func122.trans (congrArg some (by kernel_rfl))⟩
 f29 := ⟨Tryz.f123.name, by decide, Tryz.func123.trans (congrArg some (by kernel_rfl))⟩
 f31 := Tryz.func131.trans (congrArg some (by kernel_rfl))
 f32 := Tryz.func132.trans (congrArg some (by kernel_rfl))
 f36 := ⟨Tryz.f130.name, by decide, Tryz.func130.trans (congrArg some (by kernel_rfl))⟩
 f37 := ⟨Tryz.f133.name, by decide, Tryz.func133.trans (congrArg some (by kernel_rfl))⟩
 f38 := ⟨Tryz.f134.name, by decide, Tryz.func134.trans (congrArg some (by kernel_rfl))⟩
 f39 := ⟨Tryz.f135.name, by decide, Tryz.func135.trans (congrArg some (by kernel_rfl))⟩
 f41 := ⟨Tryz.f137.name, by decide, Tryz.func137.trans (congrArg some (by kernel_rfl))⟩
 t0 := Tryz.underlying0
 a0 := Tryz.isAgg0
 z0 := Tryz.sizeOf0
 v0 := Tryz.zeroValue0
 t3 := Tryz.underlying3
 a3 := Tryz.isAgg3
 z3 := Tryz.sizeOf3
 v3 := Tryz.zeroValue3
 t4 := Tryz.underlying4
 a4 := Tryz.isAgg4
 z4 := Tryz.sizeOf4
 v4 := Tryz.zeroValue4
 t5 := Tryz.underlying5
 a5 := Tryz.isAgg5
 z5 := Tryz.sizeOf5
 v5 := Tryz.zeroValue5
 t9 := Tryz.underlying9
 a9 := Tryz.isAgg9
 z9 := Tryz.sizeOf9
 v9 := Tryz.zeroValue9
 t26 := Tryz.underlying23
 a26 := Tryz.isAgg23
 z26 := Tryz.sizeOf23
 v26 := Tryz.zeroValue23
 t27 := Tryz.underlying23
 a27 := Tryz.isAgg23
 z27 := Tryz.sizeOf23
 v27 := Tryz.zeroValue23
 t29 := Tryz.underlying9
 a29 := Tryz.isAgg9
 z29 := Tryz.sizeOf9
 v29 := Tryz.zeroValue9
 t32 := Tryz.underlying139
 a32 := Tryz.isAgg139
 z32 := Tryz.sizeOf139
 v32 := Tryz.zeroValue139
 t35 := Tryz.underlying143
 a35 := Tryz.isAgg143
 z35 := Tryz.sizeOf143
 v35 := Tryz.zeroValue143
 t36 := Tryz.underlying144
 a36 := Tryz.isAgg144
 z36 := Tryz.sizeOf144
 v36 := Tryz.zeroValue144
 t41 := Tryz.underlying115
 a41 := Tryz.isAgg115
 z41 := Tryz.sizeOf115
 v41 := Tryz.zeroValue115
 t44 := Tryz.underlying151
 a44 := Tryz.isAgg151
 z44 := Tryz.sizeOf151
 v44 := Tryz.zeroValue151
 t46 := Tryz.underlying153
 a46 := Tryz.isAgg153
 z46 := Tryz.sizeOf153
 v46 := Tryz.zeroValue153
 t53 := Tryz.underlying162
 a53 := Tryz.isAgg162
 z53 := Tryz.sizeOf162
 v53 := Tryz.zeroValue162
 t57 := Tryz.underlying166
 a57 := Tryz.isAgg166
 z57 := Tryz.sizeOf166
 v57 := Tryz.zeroValue166
 t63 := Tryz.underlying168
 a63 := Tryz.isAgg168
 z63 := Tryz.sizeOf168
 v63 := Tryz.zeroValue168
 t64 := Tryz.underlying169
 a64 := Tryz.isAgg169
 z64 := Tryz.sizeOf169
 v64 := Tryz.zeroValue169 }
end
end Go.Proofs.YtlhkeohcickiaaaGreatDoor.L
namespace Go.Proofs.YtlhkeohcickiaaaGreatDoor.E
open Go.RowKit Go.Proofs.YtlhkeohcickiaaaGreatDoor.H Go.Proofs.YtlhkeohcickiaaaGreatDoorW.PrintWords Go.Proofs.YtlhkeohcickiaaaGreatDoorW.PrintLast Go.Proofs.YtlhkeohcickiaaaGreatDoorW.PrintMore
section
open Prot (heldOf roundL roundP addL addOne mkLevel mkLevels at_ firesB Good Fits)
attribute [local go_sem] slk sget sput uponK_value uponK_skip uponK_enter
theorem Tryz.sorts75 (m : Nat) : AnyZ.SortsIn Tryz.prog L.Tryz.sorted75_ren Fence.wide m :=
  ⟨fun blk off cap ss W hH hblk hsz => callsIn_wide.2 (AnyM.slices_Sort_string L.Tryz.sort97 blk off cap ss W hH hblk hsz),
   fun p cap W => callsIn_wide.2 (AnyM.slices_Sort_string_none L.Tryz.sort97 p cap W)⟩
theorem keys76 (mb : Option Nat) (W : World) : Calls Tryz.prog 76 #[.map mb] W fun e w' => e = .returned (.func (.func 98) #[] #[.pointer (some ⟨W.heap.size, 0, none⟩)]) ∧ w' = W.alloc (.cells #[.map mb] 71) :=
 callsIn_wide.1 (AnyZ.keys_in L.Tryz.keys76 Fence.wide 5 trivial rfl mb W)
set_option maxHeartbeats 1000000 in
theorem sorted75 {H : Type} (b nn : Nat) (D0 : DataW H) (R : Value → Option (DataW H × List MemPlace)) (w : World) (hown : w.ownsMap Tryz.prog 9 R b nn D0) (hmax : Maps.size D0 ≤ maxLen) (hbytes : Maps.size D0 * 16 ≤ 140737488355328) :
  Calls Tryz.prog 75 #[.func (.func 98) #[] #[.pointer (some ⟨w.heap.size, 0, none⟩)]] (w.alloc (.cells #[.map (some b)] 71)) fun e w' => ∃ (v : Value) (ss : List (List UInt8)), e = .returned v ∧ ss.Perm (strKeys D0) ∧
   w'.ownsRow (w.alloc (.cells #[.map (some b)] 71)).heap.size 9 1 v ss.length ((ss.mergeSort (fun x y => decide (x ≤ y))).map encStr) ∧ (v = .slice none 0 0 ↔ ss = []) ∧ Below (w.alloc (.cells #[.map (some b)] 71)).heap.size (w.alloc (.cells #[.map (some b)] 71)) w' := by
 have hbl := hown.lt
 have hseq : SeqGives Fence.wide 2 Tryz.prog 98 #[.pointer (some ⟨w.heap.size, 0, none⟩)] encStr (fun ss => ss.Perm (strKeys D0)) (Maps.size D0) (w.alloc (.cells #[.map (some b)] 71)) :=
  AnyZ.keys_gives (ρ := L.Tryz.keys76_ren) { L.Tryz.keys76 with } Fence.wide _ trivial rfl (by omega) w.heap.size b nn D0 _ (by simp) (by simp) (by
   obtain ⟨es, clock, hb, Ft, hs, hD⟩ := hown
   exact ⟨es, clock, (Below.heap_alloc _ _ b hbl).trans hb, Ft, hs, hD⟩)
 exact callsIn_wide.1 (AnyZ.sorted_in L.Tryz.sorted75 Fence.wide 5 trivial trivial trivial trivial rfl (by omega) (Tryz.sorts75 _) (enters_of Tryz.func97 (by kernel_rfl) rfl) 98 #[.pointer (some ⟨w.heap.size, 0, none⟩)] trivial (enters_of Tryz.func98 (by kernel_rfl) rfl) _ _ hmax hbytes _ hseq)
def risen (l : List ByteArray) : List ByteArray := ((l.map fun s => s.data.toList).mergeSort (fun x y => decide (x ≤ y))).map fun b => ⟨b.toArray⟩
theorem reads_of_map {w : World} {h : Nat} {m : List (ByteArray × Value)} (hm : Go.Proofs.YtlhkeohcickiaaaGreatDoor.H.MapAt Go.Proofs.YtlhkeohcickiaaaGreatDoor.H.encS w h m) (hnd : (m.map (·.1)).Nodup) (hsz : ∀ p ∈ m, p.1.size ≤ 32) (hlen : m.length ≤ 1000) :
  ∃ D0 : DataW Unit, w.ownsMap Tryz.prog 9 (fun _ => some (.nil, [])) h m.length D0 ∧ Maps.size D0 = m.length ∧ (strKeys D0).Perm (m.map fun p => p.1.data.toList) := by
 have hrd : ∀ x ∈ (ents Go.Proofs.YtlhkeohcickiaaaGreatDoor.H.encS m).toList, ∃ s ∈ m, x.key = .string s.1 ∧ WideElems.rd (H := Unit) Tryz.prog 9 (fun _ => some (.nil, [])) x = some (.string s.1.data.toList, .nil) := by
  intro x hx
  simp only [ents, List.mem_mapIdx] at hx
  obtain ⟨i, hi, rfl⟩ := hx
  refine ⟨m[i], List.getElem_mem hi, rfl, ?_⟩
  have := hsz _ (List.getElem_mem hi)
  refine WideElems.rd_mk (yv := (.nil, [])) ?_ rfl
  exact WideMaps.keyOf_string_mk Tryz.underlying9 (by unfold maxLen; omega)
 refine ⟨_, ⟨_, _, hm, ⟨by rw [ents_size]; unfold maxLen; omega, ?_, fun x hx => ?_⟩, Nat.le_of_eq (ents_size _ _), rfl⟩, ?_, ?_⟩
 ·refine ⟨fun x hx => ?_, ?_, ?_⟩
  ·simp only [ents, List.mem_mapIdx] at hx
   obtain ⟨i, hi, rfl⟩ := hx
   exact hi
  ·exact ents_born_nodup m
  ·have : (ents Go.Proofs.YtlhkeohcickiaaaGreatDoor.H.encS m).toList.map (·.key) = (m.map (·.1)).map Value.string := by
    apply List.ext_getElem?
    intro j
    simp [ents, Go.Proofs.YtlhkeohcickiaaaGreatDoor.H.encS]
    cases m[j]? <;> rfl
   rw [this]
   exact hnd.map _ (fun a b hab e => hab (by injection e))
 ·obtain ⟨s, _, _, h2⟩ := hrd x hx
  exact ⟨_, h2⟩
 ·show (List.foldr DataW.insert [] _).length = _
  rw [(WideShapes.sorted_perm _).length_eq]
  simp [ents]
 ·refine List.Perm.trans ((WideShapes.sorted_perm _).map _) ?_
  rw [List.map_map]
  have : ∀ x ∈ (ents Go.Proofs.YtlhkeohcickiaaaGreatDoor.H.encS m).toList, ((fun p : Lit × DataW Unit => strOf p.1) ∘ WideElems.rg Tryz.prog 9 (fun _ => some (.nil, []))) x = (match x.key with | .string s => s.data.toList | _ => []) := by
   intro x hx
   obtain ⟨s, _, h1, h2⟩ := hrd x hx
   simp only [Function.comp, WideElems.rg_of h2, h1, strOf]
  rw [List.map_congr_left this]
  refine List.Perm.of_eq ?_
  simp only [ents]
  apply List.ext_getElem?
  intro j
  simp only [List.getElem?_map, List.getElem?_mapIdx, Option.map_map]
  cases m[j]? <;> rfl
theorem facts_calls (wb h : Nat) (m : List (ByteArray × Value)) (w : World) (hc : w.cell? ⟨wb, 2, none⟩ = some (.map (some h))) (hm : H.MapAt H.encS w h m) (hnd : (m.map (·.1)).Nodup) (hsz : ∀ p ∈ m, p.1.size ≤ 32) (hlen : m.length ≤ 1000) :
  Calls Tryz.prog 53 #[.pointer (some ⟨wb, 0, none⟩)] w fun e w' => ∃ v, e = .returned v ∧ Kd.R Kd.string 9 w' w.heap.size (fun _ => True) v (risen (m.map (·.1))) ∧ Below w.heap.size w w' := by
 obtain ⟨D0, hown, hD, hP⟩ := reads_of_map hm hnd hsz hlen
 have HOW := Aside0.mk hown
 have HDD := Aside0.mk hD
 clear hown hD
 refine callsK (args := [.pointer (some ⟨wb, 0, none⟩)]) Tryz.func53 rfl Tryz.ntmps53 (by simp) fun a HF => ?_
 refine wpIn_seq ?_
 refine wpIn_region_k (fun _ => trivial) rfl wideC HF fun K hK => ?_
 refine OpsK.step rfl rfl rfl ?_
 go_simp
 refine OpsK.nil (hK _ _ fun a' hf' => ?_)
 clear hK K HF
 have HF := hf'
 refine wpIn_seq ?_
 refine wpIn_region_k (fun _ => trivial) rfl wideC HF fun K hK => ?_
 iterate 5 (refine OpsK.step rfl rfl rfl ?_; go_simp)
 refine (keys76 _ _).mono ?_
 rintro e w1 ⟨rfl, rfl⟩
 dsimp only
 refine OpsK.step rfl rfl rfl ?_
 go_simp
 refine (sorted75 h m.length D0 _ w HOW.out (by rw [HDD.out]; unfold maxLen; omega) (by rw [HDD.out]; omega)).mono ?_
 rintro e w2 ⟨v, ss, rfl, hS, hrow, hnil, hb⟩
 dsimp only
 refine OpsK.step rfl rfl rfl ?_
 go_simp
 refine OpsK.nil (hK _ _ fun a' hf' => ?_)
 clear hK K HF
 refine wpIn_ret (hf'.ret1 rfl rfl ⟨v, rfl, ?_, ?_⟩)
 ·have e1 : risen (m.map (·.1)) = ((ss.mergeSort (fun x y => decide (x ≤ y))).map fun b => ⟨b.toArray⟩) := by
   unfold risen
   rw [List.map_map]
   have := mergeSort_of_perm (hS.trans hP)
   unfold leB at this
   rw [this]
   rfl
  rw [e1]
  refine ⟨fun _ _ => trivial, (ss.mergeSort (fun x y => decide (x ≤ y))).map encStr, ?_, ?_⟩
  ·rw [List.length_map, List.length_mergeSort]
   exact own_weaken hrow (by simp)
  ·have h2 : (ss.mergeSort (fun x y => decide (x ≤ y))).map encStr = encs Value.string ((ss.mergeSort (fun x y => decide (x ≤ y))).map fun b => ⟨b.toArray⟩) := by
    unfold encs
    rw [List.map_map]
    rfl
   rw [h2]
   exact Kd.reps_scalar _
 ·exact below_then ((Below.refl _ w).alloc (Nat.le_refl _) _) (by simp) hb
end
section
open Prot (heldOf roundL roundP addL addOne mkLevel mkLevels at_ firesB Good Fits)
attribute [local go_sem] slk sget sput uponK_value uponK_skip uponK_enter
attribute [local go_sem] PureRes_value PureRes_skip
namespace P
open Prot
theorem mem_put {m : List (ByteArray × Nat)} {x : ByteArray} {n : Nat} : ∀ {p : ByteArray × Nat}, p ∈ Prot.put m x n → p ∈ m ∨ p.2 = n := by
 induction m with
 | nil => intro p h; simp [Prot.put] at h; exact .inr (by rw [h])
 | cons q l ih =>
  obtain ⟨y, k⟩ := q
  intro p h
  simp only [Prot.put] at h
  split at h
  ·rcases List.mem_cons.1 h with rfl | h
   ·exact .inr rfl
   ·exact .inl (List.mem_cons_of_mem _ h)
  ·rcases List.mem_cons.1 h with rfl | h
   ·exact .inl List.mem_cons_self
   ·rcases ih h with h | h
    ·exact .inl (List.mem_cons_of_mem _ h)
    ·exact .inr h
theorem pass_vals (len : Nat) (cs : List (Cl ByteArray)) : ∀ (m : List (ByteArray × Nat)) (b : Bool) (m' : List (ByteArray × Nat)) (b' : Bool), (∀ p ∈ m, p.2 ≤ len) → passL len cs m b = some (m', b') → ∀ p ∈ m', p.2 ≤ len := by
 induction cs with
 | nil => intro m b m' b' h e; simp only [passL, Option.some.injEq, Prod.mk.injEq] at e; rw [← e.1]; exact h
 | cons c cs ih =>
  intro m b m' b' h e
  simp only [passL] at e
  split at e
  ·cases e
  ·split at e
   ·refine ih _ _ _ _ (fun p hp => ?_) e
    rcases mem_put hp with hp | hp
    ·exact h p hp
    ·omega
   ·exact ih _ _ _ _ h e
theorem levelsF_vals (book : List (Cl ByteArray)) : ∀ (k : Nat) (m r : List (ByteArray × Nat)), (∀ p ∈ m, p.2 ≤ book.length) → levelsF book k m = some (some r) → ∀ p ∈ r, p.2 ≤ book.length := by
 intro k
 induction k with
 | zero => intro m r _ e; cases e
 | succ k ih =>
  intro m r h e
  simp only [levelsF] at e
  split at e
  ·cases e
  ·rename_i m' hp; exact ih m' r (pass_vals _ _ _ _ _ _ h hp) e
  ·rename_i m' hp; cases e; exact pass_vals _ _ _ _ _ _ h hp
theorem levels_vals {book : List (Cl ByteArray)} {r : List (ByteArray × Nat)} (h : levels book = some r) : ∀ p ∈ r, p.2 ≤ book.length := by
 refine levelsF_vals book (book.length * book.length + 2) [] r (by simp) ?_
 have := levels_eq book
 rw [h] at this
 exact this
theorem get_le_top (m : List (ByteArray × Nat)) (x : ByteArray) : Prot.get m x ≤ topOf m := by
 have : Prot.get m x = 0 ∨ ∃ p ∈ m, p.2 = Prot.get m x := by
  induction m with
  | nil => exact .inl rfl
  | cons q l ih =>
   obtain ⟨y, k⟩ := q
   simp only [Prot.get]
   split
   ·exact .inr ⟨_, List.mem_cons_self, rfl⟩
   ·rcases ih with h | ⟨p, h1, h2⟩
    ·exact .inl h
    ·exact .inr ⟨p, List.mem_cons_of_mem _ h1, h2⟩
 rcases this with h | ⟨p, h1, h2⟩
 ·omega
 ·rw [← h2]; exact le_topOf h1
end P
structure OkBook (l0 : List S25) (m : List (ByteArray × Nat)) : Prop where
 len : l0.length ≤ 64
 ok : ∀ x ∈ l0, okC x = true
 lev : Prot.levels (l0.map toC) = some m
 fit : Fits (Prot.get m) (l0.map toC)
 top : ∀ c ∈ l0.map toC, Prot.get m c.thn ≤ topOf m
 top64 : topOf m ≤ 64
theorem firstBad_none : ∀ (l : List S25) (i : Nat), firstBad l i = none → ∀ x ∈ l, okC x = true
 | [], _, _, _, h => by cases h
 | y :: l, i, h, x, hx => by
  simp only [firstBad] at h
  split at h
  ·rcases List.mem_cons.1 hx with rfl | hx
   ·assumption
   ·exact firstBad_none l _ h x hx
  ·cases h
theorem okBook {l0 : List S25} {m : List (ByteArray × Nat)} (h : boundOf l0 = .ok m) : OkBook l0 m := by
 unfold boundOf at h
 split at h
 ·cases h
 ·rename_i hlen
  split at h
  ·cases h
  ·rename_i hb
   split at h
   ·cases h
   ·rename_i m' hl
    cases h
    have hv := P.levels_vals hl
    rw [List.length_map] at hv
    exact ⟨by omega, firstBad_none l0 0 hb, hl, (Prot.levels_fits hl).1, fun c _ => P.get_le_top m c.thn, topOf_le.2 fun p hp => by have := hv p hp; omega⟩
theorem made_any (b r : Nat) (A0 : Option Addr) (c0 : Nat) (l0 : List S25) (m : List (ByteArray × Nat)) (ed : Int) (A2 : Option Addr) (c2 : Nat) (facts : List ByteArray) (w : World) (ho : OkBook l0 m)
  (hbk : BookAt w b r (.slice A0 l0.length c0) m (topOf m)) (hr0 : Kd.C k25 w A0 l0.length l0) (hc0 : l0.length ≤ c0) (hr2 : Kd.C Kd.string w A2 facts.length facts) (hc2 : facts.length ≤ c2) :
  Calls Tryz.prog 52 #[.pointer (some ⟨b, 0, none⟩), .int .i64 ed, .slice A2 facts.length c2] w (MadePost w b r A0 c0 l0 m ed facts) :=
 made_calls b r A0 c0 l0 m ed A2 c2 facts w hbk hr0 hc0 ho.len ho.fit ho.top ho.top64 hr2 hc2
def factsOf (held : List ByteArray) : List ByteArray := risen ((setOf held).map (·.1))
theorem setOf_keys (l : List ByteArray) : ((setOf l).map (·.1)).Nodup ∧ ∀ s, s ∈ (setOf l).map (·.1) ↔ s ∈ l := by
 rw [← l.reverse_reverse]
 induction l.reverse with
 | nil => exact ⟨by simp [setOf], by simp [setOf]⟩
 | cons x r ih =>
  rw [List.reverse_cons, setOf_snoc]
  obtain ⟨h1, h2⟩ := ih
  generalize r.reverse = l at h1 h2 ⊢
  have key : ∀ (m : List (ByteArray × Value)) (v : Value), (m.map (·.1)).Nodup → ((mput m x v).map (·.1)).Nodup ∧ ∀ s, s ∈ (mput m x v).map (·.1) ↔ s ∈ m.map (·.1) ∨ s = x := by
   intro m v
   induction m with
   | nil => intro _; simp [mput]
   | cons q m ih =>
    obtain ⟨y, u⟩ := q
    intro hn
    simp only [List.map_cons, List.nodup_cons] at hn
    simp only [mput]
    split
    ·rename_i e
     subst e
     refine ⟨by simpa using hn, fun s => ?_⟩
     simp only [List.map_cons, List.mem_cons]
     constructor
     ·intro h; exact .inl h
     ·rintro (h | h)
      ·exact h
      ·exact .inl h
    ·rename_i e
     obtain ⟨i1, i2⟩ := ih hn.2
     refine ⟨?_, fun s => ?_⟩
     ·simp only [List.map_cons, List.nodup_cons]
      refine ⟨fun h => ?_, i1⟩
      rcases (i2 y).1 h with h | h
      ·exact hn.1 h
      ·exact e h.symm
     ·simp only [List.map_cons, List.mem_cons, i2 s]
      exact or_assoc.symm
  obtain ⟨k1, k2⟩ := key (setOf l) (.bool true) h1
  refine ⟨k1, fun s => ?_⟩
  rw [k2, h2]
  simp
theorem setOf_len (l : List ByteArray) : (setOf l).length ≤ l.length := by
 rw [← l.reverse_reverse]
 induction l.reverse with
 | nil => simp [setOf]
 | cons x r ih =>
  rw [List.reverse_cons, setOf_snoc, mput_length]
  rw [List.length_append, List.length_singleton]
  split <;> omega
theorem name_size {s : ByteArray} (h : nameB s = true) : s.size ≤ 32 := by
 unfold nameB at h
 simp only [Bool.and_eq_true, decide_eq_true_eq] at h
 exact h.2.1
theorem rest_names : ∀ (l : List ByteArray) (p : Option ByteArray), restB p l = true → ∀ s ∈ l, nameB s = true
 | [], _, _, _, h => by cases h
 | x :: l, p, h, s, hs => by
  simp only [restB, Bool.and_eq_true] at h
  rcases List.mem_cons.1 hs with rfl | hs
  ·exact h.1
  ·exact rest_names l _ h.2.2 s hs
theorem rising_names {l : List ByteArray} {most : Int} (h : risingB l most = true) : (∀ s ∈ l, nameB s = true) ∧ (l.length : Int) ≤ most := by
 unfold risingB at h
 simp only [Bool.and_eq_true, decide_eq_true_eq] at h
 exact ⟨rest_names l none h.1, h.2⟩
theorem ok_thn {x : S25} (h : okC x = true) : nameB x.f5 = true := by
 unfold okC okB at h
 simp only [Bool.and_eq_true] at h
 exact h.2.2.1
theorem made_ok {m : List (ByteArray × Nat)} {l0 : List S25} {ed : Int} {facts : List ByteArray} {o : List Nat} (h : madeOf m l0 ed facts = .ok o) : risingB facts 64 = true ∧ (0 ≤ ed ∧ ed ≤ 1000) ∧ o = Prot.made (Prot.get m) (topOf m) ed (l0.map toC) facts := by
 unfold madeOf at h
 split at h
 ·rename_i hc
  simp only [Bool.and_eq_true, decide_eq_true_eq] at hc
  exact ⟨hc.2, hc.1, (Except.ok.inj h).symm⟩
 ·cases h
theorem made_good {l0 : List S25} {m : List (ByteArray × Nat)} (ho : OkBook l0 m) {ed : Int} {facts : List ByteArray} {o : List Nat} (h : madeOf m l0 ed facts = .ok o) : Prot.Good (Prot.get m) ed (l0.map toC) facts o ∧ ∀ t, Prot.Shut (Prot.get m) ed (l0.map toC) facts t o := by
 obtain ⟨_, _, rfl⟩ := made_ok h
 exact (Prot.made_spec facts ho.fit ho.top).2
theorem held_names {l0 : List S25} {m : List (ByteArray × Nat)} (ho : OkBook l0 m) {ed : Int} {facts : List ByteArray} {o : List Nat} (h : madeOf m l0 ed facts = .ok o) : (∀ s ∈ heldOf (l0.map toC) facts o, nameB s = true) ∧ (heldOf (l0.map toC) facts o).length ≤ 128 := by
 obtain ⟨hr, _, _⟩ := made_ok h
 obtain ⟨hg, _⟩ := made_good ho h
 obtain ⟨h1, h2⟩ := rising_names hr
 have hlen := hg.length_le
 rw [List.length_map] at hlen
 refine ⟨fun s hs => ?_, ?_⟩
 ·rcases Prot.mem_heldOf.1 hs with hs | ⟨i, hi, rfl⟩
  ·exact h1 s hs
  ·have hil := hg.lt i hi
   rw [List.length_map] at hil
   rw [at_toC l0 hil]
   exact ok_thn (ho.ok _ (by unfold rd_T25; rw [Int.toNat_natCast, List.getD_eq_getElem?_getD, List.getElem?_eq_getElem hil]; exact List.getElem_mem hil))
 ·have hl := ho.len
  simp only [heldOf, Prot.thens, List.length_append, List.length_map]
  omega
theorem facts_any (wb h : Nat) (held : List ByteArray) (w : World) (hc : w.cell? ⟨wb, 2, none⟩ = some (.map (some h))) (hm : H.MapAt H.encS w h (setOf held)) (hn : ∀ s ∈ held, nameB s = true) (hl : held.length ≤ 128) :
  Calls Tryz.prog 53 #[.pointer (some ⟨wb, 0, none⟩)] w fun e w' => ∃ v, e = .returned v ∧ Kd.R Kd.string 9 w' w.heap.size (fun _ => True) v (factsOf held) ∧ Below w.heap.size w w' := by
 obtain ⟨h1, h2⟩ := setOf_keys held
 refine facts_calls wb h (setOf held) w hc hm h1 (fun p hp => name_size (hn _ ((h2 p.1).1 (List.mem_map_of_mem hp)))) ?_
 have := setOf_len held
 omega
def QPost {α : Type} (w : World) (sb : Nat) (ans : Except (Int × Int) α) (R : World → Value → α → Prop) (e : Ending) (w' : World) : Prop :=
 ∃ w2, Below w.heap.size w w2 ∧ match ans with
  | .error (x, y) => e = refused x y ∧ w' = w2
  | .ok a => ∃ v, R w2 v a ∧ e = .returned (.tuple #[]) ∧ w' = w2.setCell ⟨sb, 0, none⟩ v
def askedOf (l0 : List S25) (ed : Int) (facts : List ByteArray) : Except (Int × Int) (List (ByteArray × Nat) × List Nat) := match boundOf l0 with
 | .error p => .error p
 | .ok m => match madeOf m l0 ed facts with
  | .error p => .error p
  | .ok o => .ok (m, o)
def holdsOf (l0 : List S25) (ed : Int) (facts : List ByteArray) : Except (Int × Int) (List ByteArray) := match askedOf l0 ed facts with
 | .error p => .error p
 | .ok (_, o) => .ok (factsOf (heldOf (l0.map toC) facts o))
theorem WAt.cell2 {W : World} {wb b r h g rr : Nat} {sl : Value} {m : List (ByteArray × Nat)} {top ed : Int} {hs gs rs : List (ByteArray × Value)} {ov : Value} (k : WAt W wb b r h g rr sl m top ed hs gs rs ov) : W.cell? ⟨wb, 2, none⟩ = some (.map (some h)) := k.cells.2.2.1
set_option maxRecDepth 100000 in
set_option maxHeartbeats 1000000 in
theorem holds_question (lb eb fb sb : Nat) (A0 : Option Addr) (c0 : Nat) (l0 : List S25) (ed : Int) (A2 : Option Addr) (c2 : Nat) (facts : List ByteArray) (n0 : Value) (w : World) (hl : w.heap[lb]? = some (.cells #[.slice A0 l0.length c0] 22 (0, 0))) (he : w.heap[eb]? = some (.cells #[.int .i64 ed] 3 (0, 0)))
  (hf : w.heap[fb]? = some (.cells #[.slice A2 facts.length c2] 23 (0, 0))) (hs : w.heap[sb]? = some (.cells #[n0] 23 (0, 0))) (hne : sb ≠ lb ∧ sb ≠ eb ∧ sb ≠ fb) (hr0 : Kd.C k25 w A0 l0.length l0) (hc0 : l0.length ≤ c0) (hr2 : Kd.C Kd.string w A2 facts.length facts) (hc2 : facts.length ≤ c2) :
  Calls Tryz.prog 51 #[.pointer (some ⟨lb, 0, none⟩), .pointer (some ⟨eb, 0, none⟩), .pointer (some ⟨fb, 0, none⟩), .pointer (some ⟨sb, 0, none⟩)] w (QPost w sb (holdsOf l0 ed facts) fun w2 v hs => Kd.R Kd.string 9 w2 w.heap.size (fun _ => True) v hs) := by
 have HR0 := Aside0.mk hr0
 have HR2 := Aside0.mk hr2
 have HHS := Aside0.mk hs
 have HNE := Aside0.mk hne
 have hll := (Array.getElem?_eq_some_iff.1 hl).1
 have hel := (Array.getElem?_eq_some_iff.1 he).1
 have hfl := (Array.getElem?_eq_some_iff.1 hf).1
 have hsl := (Array.getElem?_eq_some_iff.1 hs).1
 obtain ⟨S, hS⟩ : ∃ S : World → Prop, S = fun W => W.heap[lb]? = w.heap[lb]? ∧ W.heap[eb]? = w.heap[eb]? ∧ W.heap[fb]? = w.heap[fb]? := ⟨_, rfl⟩
 have S0 : S { w with drawn := w.drawn + 1 } := by rw [hS]; exact ⟨rfl, rfl, rfl⟩
 have SB : ∀ W, Below w.heap.size w W → S W := fun W hb => by rw [hS]; exact ⟨hb.block _ hll, hb.block _ hel, hb.block _ hfl⟩
 have SC : ∀ W, S W → W.cell? ⟨lb, 0, none⟩ = some (.slice A0 l0.length c0) ∧ W.cell? ⟨eb, 0, none⟩ = some (.int .i64 ed) ∧ W.cell? ⟨fb, 0, none⟩ = some (.slice A2 facts.length c2) := fun W hW => by
  rw [hS] at hW
  exact ⟨cell_of (hW.1.trans hl), cell_of (hW.2.1.trans he), cell_of (hW.2.2.trans hf)⟩
 have SS : ∀ W v, S W → S (W.setCell ⟨sb, 0, none⟩ v) := fun W v hW => by
  rw [hS] at hW ⊢
  refine ⟨?_, ?_, ?_⟩
  ·rw [Below.heap_setCell _ _ _ _ (Ne.symm hne.1)]; exact hW.1
  ·rw [Below.heap_setCell _ _ _ _ (Ne.symm hne.2.1)]; exact hW.2.1
  ·rw [Below.heap_setCell _ _ _ _ (Ne.symm hne.2.2)]; exact hW.2.2
 have HSB := Aside0.mk SB
 have HSC := Aside0.mk SC
 have HSS := Aside0.mk SS
 have HS0 := Aside0.mk S0
 clear hr0 hr2 hs hne hS SB SC SS S0 hl he hf
 refine callsK (args := [.pointer (some ⟨lb, 0, none⟩), .pointer (some ⟨eb, 0, none⟩), .pointer (some ⟨fb, 0, none⟩), .pointer (some ⟨sb, 0, none⟩)]) Tryz.func51 rfl Tryz.ntmps51 (by simp) fun a HF0 => ?_
 have HF : Fr 10 [] [(0, .pointer (some ⟨lb, 0, none⟩)), (1, .pointer (some ⟨eb, 0, none⟩)), (2, .pointer (some ⟨fb, 0, none⟩)), (3, .pointer (some ⟨sb, 0, none⟩))] a := HF0
 clear HF0
 refine wpIn_region_mix (by kernel_rfl) HF [(0, false), (2, false), (3, false), (1, true), (4, true), (5, true), (6, true)] (S) (HS0.out) rfl (by kernel_rfl) (by kernel_rfl) (by kernel_rfl) (fun _ _ _ _ hd hq => ⟨hd.trans hq.1, hq.2⟩) fun K Pn hK hPn => ?_
 apply MixK.read
 ·rfl
 ·rfl
 ·rfl
 ·rfl
 ·intro W hW
  obtain ⟨k1, k2, k3⟩ := HSC.out W hW
  go_simp
  first | exact rfl | exact ⟨rfl, rfl⟩
 apply MixK.read
 ·rfl
 ·rfl
 ·rfl
 ·rfl
 ·intro W hW
  obtain ⟨k1, k2, k3⟩ := HSC.out W hW
  go_simp
  first | exact rfl | exact ⟨rfl, rfl⟩
 apply MixK.read
 ·rfl
 ·rfl
 ·rfl
 ·rfl
 ·intro W hW
  obtain ⟨k1, k2, k3⟩ := HSC.out W hW
  go_simp
  first | exact rfl | exact ⟨rfl, rfl⟩
 have hw1 : Below w.heap.size w { w with drawn := w.drawn + 1 } := ⟨rfl, rfl, rfl, Nat.le_refl _, fun _ _ => rfl⟩
 generalize hg1 : ({ w with drawn := w.drawn + 1 } : World) = w1 at hw1 ⊢
 clear hg1
 refine MixK.call rfl rfl rfl rfl ?_
 go_simp
 refine (bound_calls A0 c0 l0 w1 (Kd.C_below HR0.out hw1) hc0).mono ?_
 rintro e w2 ⟨hb2, hp⟩
 have hw2 : Below w.heap.size w w2 := below_then hw1 hw1.size hb2
 cases hbo : boundOf l0 with
 | error p =>
  obtain ⟨x, y⟩ := p
  rw [hbo] at hp
  cases hp
  exact hPn _ _ fun a' hd => ⟨hd, w2, hw2, by unfold holdsOf askedOf; rw [hbo]; exact ⟨rfl, rfl⟩⟩
 | ok m =>
  rw [hbo] at hp
  obtain ⟨b, r, rfl, hbk, _, _⟩ := hp
  have hob := okBook hbo
  dsimp only
  refine ⟨HSB.out _ hw2, ?_⟩
  refine MixK.call rfl rfl rfl rfl ?_
  go_simp
  refine (made_any b r A0 c0 l0 m ed A2 c2 facts w2 hob hbk (Kd.C_below HR0.out hw2) hc0 (Kd.C_below HR2.out hw2) hc2).mono ?_
  rintro e w3 ⟨hb3, hp⟩
  have hw3 : Below w.heap.size w w3 := below_then hw2 hw2.size hb3
  cases hmo : madeOf m l0 ed facts with
  | error p =>
   obtain ⟨x, y⟩ := p
   rw [hmo] at hp
   cases hp
   exact hPn _ _ fun a' hd => ⟨hd, w3, hw3, by unfold holdsOf askedOf; rw [hbo]; dsimp only; rw [hmo]; exact ⟨rfl, rfl⟩⟩
  | ok o =>
   rw [hmo] at hp
   obtain ⟨wb, h, g, rr, OV, rfl, hwa, hro⟩ := hp
   obtain ⟨hn1, hn2⟩ := held_names hob hmo
   dsimp only
   refine ⟨HSB.out _ hw3, ?_⟩
   refine MixK.call rfl rfl rfl rfl ?_
   go_simp
   refine (facts_any wb h _ w3 hwa.cell2 hwa.held hn1 hn2).mono ?_
   rintro e w4 ⟨v, rfl, hrv, hb4⟩
   have hw4 : Below w.heap.size w w4 := below_then hw3 hw3.size hb4
   have hrv2 := Kd.R_lower hrv hw3.size
   obtain ⟨Av, cv, hv⟩ := Kd.R_slice hrv
   have hs4 := (hw4.block sb hsl).trans HHS.out
   have hsc := cell_of hs4
   have hsf := frozen_of hs4
   have HRV := Aside0.mk hrv2
   have HW4 := Aside0.mk hw4
   have HH : Aside0 (holdsOf l0 ed facts = .ok (factsOf (heldOf (l0.map toC) facts o))) := ⟨by unfold holdsOf askedOf; rw [hbo]; simp only [hmo]⟩
   clear hrv hrv2 hs4 hb4 hw4 hwa hro hn1 hn2 hb3 hw3 hb2 hw2 hw1 hbo hmo hob hbk
   subst hv
   dsimp only
   refine ⟨HSB.out _ HW4.out, ?_⟩
   refine MixK.call rfl rfl rfl rfl ?_
   go_simp
   refine ⟨HSS.out _ _ (HSB.out _ HW4.out), ?_⟩
   refine MixK.nil (hK _ _ fun a' hf' => ?_)
   refine hf'.end0 rfl ⟨w4, HW4.out, ?_⟩
   rw [HH.out]
   exact ⟨_, HRV.out, rfl, rfl⟩
end
section
open Prot (heldOf roundL roundP addL addOne mkLevel mkLevels at_ firesB Good Fits)
attribute [local go_sem] slk sget sput uponK_value uponK_skip uponK_enter
attribute [local go_sem] PureRes_value PureRes_skip
open Prot (derive)
noncomputable def whyOf (l0 : List S25) (ed : Int) (facts : List ByteArray) (claim : ByteArray) : Except (Int × Int) (List Int) := match askedOf l0 ed facts with
 | .error p => .error p
 | .ok (_, o) => if nameB claim then (if has (setOf (heldOf (l0.map toC) facts o)) claim then .ok (ints (derive (l0.map toC) o claim)) else .error (-1, 7)) else .error (-1, 2)
theorem row_reads {w : World} {base : Nat} {ok : Nat → Prop} {v : Value} {o : List Nat} (h : Kd.R (Kd.int .i64) 3 w base ok v (ints o)) : ∃ A c, v = .slice A o.length c ∧ (Kd.int .i64).C w A o.length (ints o) := by
 obtain ⟨A, c, he, _, hC⟩ := Kd.R_reads h
 rw [ints_len] at he hC
 exact ⟨A, c, he, hC⟩
theorem filter_derive {l0 : List S25} {m : List (ByteArray × Nat)} (ho : OkBook l0 m) {ed : Int} {facts : List ByteArray} {o : List Nat} (h : madeOf m l0 ed facts = .ok o) (claim : ByteArray) :
  ∃ U, Prot.wantF (l0.map toC) o (o.length + 1) claim [] = some U ∧ o.filter U.contains = derive (l0.map toC) o claim := by
 obtain ⟨W, h1, h2⟩ := Prot.wantF_derive (made_good ho h).1.nodup claim (o.length + 1) (by omega)
 exact ⟨W, h1, h2⟩
set_option maxRecDepth 100000 in
set_option maxHeartbeats 2000000 in
theorem why_question (lb eb fb clb sb : Nat) (A0 : Option Addr) (c0 : Nat) (l0 : List S25) (ed : Int) (A2 : Option Addr) (c2 : Nat) (facts : List ByteArray) (claim : ByteArray) (n0 : Value) (w : World) (hl : w.heap[lb]? = some (.cells #[.slice A0 l0.length c0] 22 (0, 0))) (he : w.heap[eb]? = some (.cells #[.int .i64 ed] 3 (0, 0)))
  (hf : w.heap[fb]? = some (.cells #[.slice A2 facts.length c2] 23 (0, 0))) (hcl : w.heap[clb]? = some (.cells #[.string claim] 9 (0, 0))) (hs : w.heap[sb]? = some (.cells #[n0] 37 (0, 0))) (hr0 : Kd.C k25 w A0 l0.length l0) (hc0 : l0.length ≤ c0) (hr2 : Kd.C Kd.string w A2 facts.length facts) (hc2 : facts.length ≤ c2) :
  Calls Tryz.prog 56 #[.pointer (some ⟨lb, 0, none⟩), .pointer (some ⟨eb, 0, none⟩), .pointer (some ⟨fb, 0, none⟩), .pointer (some ⟨clb, 0, none⟩), .pointer (some ⟨sb, 0, none⟩)] w (QPost w sb (whyOf l0 ed facts claim) fun w2 v r => Kd.R (Kd.int .i64) 3 w2 w.heap.size (fun _ => True) v r) := by
 have HR0 := Aside0.mk hr0
 have HR2 := Aside0.mk hr2
 have HHS := Aside0.mk hs
 have HCL := Aside0.mk hcl
 have hll := (Array.getElem?_eq_some_iff.1 hl).1
 have hel := (Array.getElem?_eq_some_iff.1 he).1
 have hfl := (Array.getElem?_eq_some_iff.1 hf).1
 have hsl := (Array.getElem?_eq_some_iff.1 hs).1
 have hcll := (Array.getElem?_eq_some_iff.1 hcl).1
 obtain ⟨S, hS⟩ : ∃ S : World → Prop, S = fun W => W.heap[lb]? = w.heap[lb]? ∧ W.heap[eb]? = w.heap[eb]? ∧ W.heap[fb]? = w.heap[fb]? := ⟨_, rfl⟩
 have S0 : S { w with drawn := w.drawn + 1 } := by rw [hS]; exact ⟨rfl, rfl, rfl⟩
 have SB : ∀ W, Below w.heap.size w W → S W := fun W hb => by rw [hS]; exact ⟨hb.block _ hll, hb.block _ hel, hb.block _ hfl⟩
 have SC : ∀ W, S W → W.cell? ⟨lb, 0, none⟩ = some (.slice A0 l0.length c0) ∧ W.cell? ⟨eb, 0, none⟩ = some (.int .i64 ed) ∧ W.cell? ⟨fb, 0, none⟩ = some (.slice A2 facts.length c2) := fun W hW => by
  rw [hS] at hW
  exact ⟨cell_of (hW.1.trans hl), cell_of (hW.2.1.trans he), cell_of (hW.2.2.trans hf)⟩
 have HSB := Aside0.mk SB
 have HSC := Aside0.mk SC
 have HS0 := Aside0.mk S0
 clear hr0 hr2 hs hS SB SC S0 hl he hf hcl
 refine callsK (args := [.pointer (some ⟨lb, 0, none⟩), .pointer (some ⟨eb, 0, none⟩), .pointer (some ⟨fb, 0, none⟩), .pointer (some ⟨clb, 0, none⟩), .pointer (some ⟨sb, 0, none⟩)]) Tryz.func56 rfl Tryz.ntmps56 (by simp) fun a HF0 => ?_
 have HF : Fr 24 [] [(0, .pointer (some ⟨lb, 0, none⟩)), (1, .pointer (some ⟨eb, 0, none⟩)), (2, .pointer (some ⟨fb, 0, none⟩)), (3, .pointer (some ⟨clb, 0, none⟩)), (4, .pointer (some ⟨sb, 0, none⟩))] a := HF0
 clear HF0
 refine wpIn_seq ?_
 refine wpIn_region_mix (by kernel_rfl) HF [(0, false), (2, false), (3, false), (1, true), (4, true), (5, false)] (S) (HS0.out) rfl (by kernel_rfl) (by kernel_rfl) (by kernel_rfl) (fun _ _ _ _ hd hq => ⟨hd.trans hq.1, hq.2⟩) fun K Pn hK hPn => ?_
 apply MixK.read
 ·rfl
 ·rfl
 ·rfl
 ·rfl
 ·intro W hW
  obtain ⟨k1, k2, k3⟩ := HSC.out W hW
  go_simp
  first | exact rfl | exact ⟨rfl, rfl⟩
 apply MixK.read
 ·rfl
 ·rfl
 ·rfl
 ·rfl
 ·intro W hW
  obtain ⟨k1, k2, k3⟩ := HSC.out W hW
  go_simp
  first | exact rfl | exact ⟨rfl, rfl⟩
 apply MixK.read
 ·rfl
 ·rfl
 ·rfl
 ·rfl
 ·intro W hW
  obtain ⟨k1, k2, k3⟩ := HSC.out W hW
  go_simp
  first | exact rfl | exact ⟨rfl, rfl⟩
 have hw1 : Below w.heap.size w { w with drawn := w.drawn + 1 } := ⟨rfl, rfl, rfl, Nat.le_refl _, fun _ _ => rfl⟩
 generalize hg1 : ({ w with drawn := w.drawn + 1 } : World) = w1 at hw1 ⊢
 clear hg1
 refine MixK.call rfl rfl rfl rfl ?_
 go_simp
 refine (bound_calls A0 c0 l0 w1 (Kd.C_below HR0.out hw1) hc0).mono ?_
 rintro e w2 ⟨hb2, hp⟩
 have hw2 : Below w.heap.size w w2 := below_then hw1 hw1.size hb2
 cases hbo : boundOf l0 with
 | error p =>
  obtain ⟨x, y⟩ := p
  rw [hbo] at hp
  cases hp
  exact hPn _ _ fun a' hd => ⟨hd, w2, hw2, by unfold whyOf askedOf; rw [hbo]; exact ⟨rfl, rfl⟩⟩
 | ok m =>
  rw [hbo] at hp
  obtain ⟨b, r, rfl, hbk, _, _⟩ := hp
  have hob := okBook hbo
  dsimp only
  refine ⟨HSB.out _ hw2, ?_⟩
  refine MixK.call rfl rfl rfl rfl ?_
  go_simp
  refine (made_any b r A0 c0 l0 m ed A2 c2 facts w2 hob hbk (Kd.C_below HR0.out hw2) hc0 (Kd.C_below HR2.out hw2) hc2).mono ?_
  rintro e w3 ⟨hb3, hp⟩
  have hw3 : Below w.heap.size w w3 := below_then hw2 hw2.size hb3
  cases hmo : madeOf m l0 ed facts with
  | error p =>
   obtain ⟨x, y⟩ := p
   rw [hmo] at hp
   cases hp
   exact hPn _ _ fun a' hd => ⟨hd, w3, hw3, by unfold whyOf askedOf; rw [hbo]; dsimp only; rw [hmo]; exact ⟨rfl, rfl⟩⟩
  | ok o =>
   rw [hmo] at hp
   obtain ⟨wb, h, g, rr, OV, rfl, hwa, hro⟩ := hp
   have HAS : Aside0 (askedOf l0 ed facts = .ok (m, o)) := ⟨by unfold askedOf; rw [hbo]; dsimp only; rw [hmo]⟩
   have HMO := Aside0.mk hmo
   have HOB := Aside0.mk hob
   have HWA := Aside0.mk hwa
   have HRO := Aside0.mk hro
   have HW3 := Aside0.mk hw3
   clear hbo hmo hob hwa hro hw3 hb3 hw2 hb2 hw1 hbk
   dsimp only
   refine ⟨HSB.out _ HW3.out, ?_⟩
   apply MixK.read
   ·rfl
   ·rfl
   ·rfl
   ·rfl
   ·intro W hW
    go_simp
    first | exact rfl | exact ⟨rfl, rfl⟩
   refine MixK.nil (hK _ _ fun a' hf' => ?_)
   clear hK K HF hPn Pn
   have HF : Fr 24 [] [(3, .pointer (some ⟨clb, 0, none⟩)), (4, .pointer (some ⟨sb, 0, none⟩)), (5, .pointer (some ⟨wb, 0, none⟩))] a' := hf'.sub ⟨rfl, rfl, rfl, trivial⟩
   clear hf'
   have hcc := cell_of ((HW3.out.block clb hcll).trans HCL.out)
   refine wpIn_seq ?_
   refine wpIn_region_p (fun _ => trivial) rfl wideC HF fun K Pn hK hPn => ?_
   iterate 2 (refine OpsK.step rfl rfl rfl ?_; go_simp)
   refine (named_any claim w3).mono ?_
   rintro e w4 ⟨rfl, hb4⟩
   dsimp only
   refine OpsK.step rfl rfl rfl ?_
   go_simp
   cases hnm : nameB claim with
   | false =>
    refine (need_false _ _ _).mono ?_
    rintro e w5 ⟨rfl, rfl⟩
    exact hPn _ _ fun a' hd => ⟨hd, w4, below_then HW3.out HW3.out.size hb4, by unfold whyOf; rw [HAS.out]; dsimp only; rw [hnm]; exact ⟨rfl, rfl⟩⟩
   | true =>
    refine (need_true _ _ _).mono ?_
    rintro e w5 ⟨rfl, rfl⟩
    dsimp only
    refine OpsK.nil (hK _ _ fun a' hf' => ?_)
    clear hK K HF hPn Pn
    have HF : Fr 24 [] [(3, .pointer (some ⟨clb, 0, none⟩)), (4, .pointer (some ⟨sb, 0, none⟩)), (5, .pointer (some ⟨wb, 0, none⟩))] a' := hf'.sub ⟨rfl, rfl, rfl, trivial⟩
    clear hf' hcc
    have HNM := Aside0.mk hnm
    clear hnm
    have hw4 : Below w.heap.size w w4 := below_then HW3.out HW3.out.size hb4
    have hwa4 := HWA.out.below hb4
    have HW4 := Aside0.mk hw4
    have HB34 := Aside0.mk hb4
    have HWA4 := Aside0.mk hwa4
    have hlwb := hwa4.lt
    have hlh := hwa4.held.lt
    have hlc : clb < w4.heap.size := by have := hw4.size; omega
    have HHC := Aside0.mk ((hw4.block clb hcll).trans HCL.out)
    obtain ⟨bh, hbh⟩ : ∃ bh, bh = has (setOf (heldOf (l0.map toC) facts o)) claim := ⟨_, rfl⟩
    have hlk : ∀ W, Below w4.heap.size w4 W → W.cell? ⟨wb, 2, none⟩ = some (.map (some h)) ∧ W.cell? ⟨clb, 0, none⟩ = some (.string claim) ∧ (Instr.lookup 71 (.map (some h)) (.string claim) false).run Tryz.prog W = .ok (.bool bh) W := fun W hW => by
     refine ⟨(hwa4.below hW).cell2, cell_of ((hW.block clb hlc).trans HHC.out), ?_⟩
     rw [hbh, ← bool_of_true (setOf_true _)]
     exact run_lookup_at keyS Tryz.underlying71 Tryz.underlying9 (hwa4.below hW).held zero4 _
    have HLK := Aside0.mk hlk
    have HBH := Aside0.mk hbh
    clear hlk hbh hwa4 hw4 hb4
    refine wpIn_seq ?_
    refine wpIn_region_mix (by kernel_rfl) HF [(0, false), (1, false), (2, false), (3, false), (4, false), (5, false), (6, true)] (fun W => Below w4.heap.size w4 W) (⟨rfl, rfl, rfl, Nat.le_refl _, fun _ _ => rfl⟩) rfl (by kernel_rfl) (by kernel_rfl) (by kernel_rfl) (fun _ _ _ _ hd hq => ⟨hd.trans hq.1, hq.2⟩) fun K Pn hK hPn => ?_
    apply MixK.read
    ·rfl
    ·rfl
    ·rfl
    ·rfl
    ·intro W hW
     go_simp
     first | exact rfl | exact ⟨rfl, rfl⟩
    apply MixK.read
    ·rfl
    ·rfl
    ·rfl
    ·rfl
    ·intro W hW
     go_simp
     first | exact rfl | exact ⟨rfl, rfl⟩
    apply MixK.read
    ·rfl
    ·rfl
    ·rfl
    ·rfl
    ·intro W hW
     go_simp
     first | exact rfl | exact ⟨rfl, rfl⟩
    apply MixK.read
    ·rfl
    ·rfl
    ·rfl
    ·rfl
    ·intro W hW
     obtain ⟨k1, k2, k3⟩ := HLK.out W hW
     go_simp
     first | exact rfl | exact ⟨rfl, rfl⟩
    apply MixK.read
    ·rfl
    ·rfl
    ·rfl
    ·rfl
    ·intro W hW
     obtain ⟨k1, k2, k3⟩ := HLK.out W hW
     go_simp
     first | exact rfl | exact ⟨rfl, rfl⟩
    apply MixK.read
    ·rfl
    ·rfl
    ·rfl
    ·rfl
    ·intro W hW
     obtain ⟨k1, k2, k3⟩ := HLK.out W hW
     go_simp
     first | exact rfl | exact ⟨rfl, rfl⟩
    have hw5 : Below w4.heap.size w4 { w4 with drawn := w4.drawn + 1 } := ⟨rfl, rfl, rfl, Nat.le_refl _, fun _ _ => rfl⟩
    generalize hg1 : ({ w4 with drawn := w4.drawn + 1 } : World) = w5 at hw5 ⊢
    clear hg1
    refine MixK.call rfl rfl rfl rfl ?_
    go_simp
    cases bh with
    | false =>
     refine (need_false _ _ _).mono ?_
     rintro e w6 ⟨rfl, rfl⟩
     exact hPn _ _ fun a' hd => ⟨hd, w5, below_then HW4.out HW4.out.size hw5, by unfold whyOf; rw [HAS.out]; dsimp only; rw [HNM.out, ← HBH.out]; exact ⟨rfl, rfl⟩⟩
    | true =>
     refine (need_true _ _ _).mono ?_
     rintro e w6 ⟨rfl, rfl⟩
     dsimp only
     refine ⟨hw5, ?_⟩
     refine MixK.nil (hK _ _ fun a' hf' => ?_)
     clear hK K HF hPn Pn
     have HF : Fr 24 [] [(3, .pointer (some ⟨clb, 0, none⟩)), (4, .pointer (some ⟨sb, 0, none⟩)), (5, .pointer (some ⟨wb, 0, none⟩))] a' := hf'.sub ⟨rfl, rfl, rfl, trivial⟩
     clear hf'
     have hwx : Below w.heap.size w w5 := below_then HW4.out HW4.out.size hw5
     have hwa5 := HWA4.out.below hw5
     obtain ⟨A5, c5, hov, hC5⟩ := row_reads HRO.out
     have h35 : Below w3.heap.size w3 w5 := below_then HB34.out HB34.out.size hw5
     obtain ⟨U, hU, hfl⟩ := filter_derive HOB.out HMO.out claim
     obtain ⟨hgood, _⟩ := made_good HOB.out HMO.out
     subst hov
     have hlo := hgood.length_le
     rw [List.length_map] at hlo
     have h64 := HOB.out.len
     have HCW := Aside0.mk (why_calls wb b r h g rr A0 c0 l0 m ed _ _ o U A5 c5 _ claim w5 (Kd.C_below HR0.out hwx) hgood.nodup (fun i hi => by have := hgood.lt i hi; rwa [List.length_map] at this) hwa5 (Kd.C_below hC5 h35) (by omega) hU)
     have hcc := (HLK.out _ hw5).2.1
     have HHF := Aside0.mk hfl
     have HWX := Aside0.mk hwx
     have hs5 := (hwx.block sb hsl).trans HHS.out
     have HS5 := Aside0.mk hs5
     clear hs5 hwx hfl hU hgood hC5 h35 hwa5
     refine wpIn_region_k (fun _ => trivial) rfl wideC HF fun K hK => ?_
     iterate 3 (refine OpsK.step rfl rfl rfl ?_; go_simp)
     refine HCW.out.mono ?_
     rintro e w7 ⟨v, rfl, hrv, hb7⟩
     dsimp only
     obtain ⟨Av, cv, hv⟩ := Kd.R_slice hrv
     have hs7 := (hb7.block sb (Array.getElem?_eq_some_iff.1 HS5.out).1).trans HS5.out
     have hsc := cell_of hs7
     have hsf := frozen_of hs7
     have HRV := Aside0.mk (Kd.R_lower hrv HWX.out.size)
     have HB7 := Aside0.mk (below_then HWX.out HWX.out.size hb7)
     clear hrv hb7 hs7
     subst hv
     refine OpsK.step rfl rfl rfl ?_
     go_simp
     refine OpsK.nil (hK _ _ fun a' hf' => ?_)
     clear hK K HF
     refine hf'.end0 rfl ⟨w7, HB7.out, ?_⟩
     unfold whyOf
     rw [HAS.out]
     dsimp only
     rw [HNM.out, ← HBH.out]
     refine ⟨_, ?_, rfl, rfl⟩
     rw [← HHF.out]
     exact HRV.out
end
section
open Prot (heldOf roundL roundP addL addOne mkLevel mkLevels at_ firesB Good Fits)
attribute [local go_sem] slk sget sput uponK_value uponK_skip uponK_enter
def QPost2 {α : Type} (w : World) (s1 s2 : Nat) (ans : Except (Int × Int) α) (R : World → Value → Value → α → Prop) (e : Ending) (w' : World) : Prop :=
 ∃ w2, Below w.heap.size w w2 ∧ match ans with
  | .error (x, y) => e = refused x y ∧ w' = w2
  | .ok a => ∃ v1 v2, R w2 v1 v2 a ∧ e = .returned (.tuple #[]) ∧ w' = (w2.setCell ⟨s1, 0, none⟩ v1).setCell ⟨s2, 0, none⟩ v2
theorem holds_of {l0 : List S25} {m : List (ByteArray × Nat)} {ed : Int} {facts : List ByteArray} {o : List Nat} (hb : boundOf l0 = .ok m) (hm : madeOf m l0 ed facts = .ok o) : holdsOf l0 ed facts = .ok (factsOf (heldOf (l0.map toC) facts o)) := by
 unfold holdsOf askedOf; rw [hb]; dsimp only; rw [hm]
end
section
open Prot (heldOf roundL roundP addL addOne mkLevel mkLevels at_ firesB Good Fits)
attribute [local go_sem] slk sget sput uponK_value uponK_skip uponK_enter
attribute [local go_sem] PureRes_value PureRes_skip
open Prot (proveL)
def provesOf (l0 : List S25) (ed : Int) (facts : List ByteArray) (steps : List Int) (claim : ByteArray) : Except (Int × Int) (Bool × Int) := match askedOf l0 ed facts with
 | .error p => .error p
 | .ok (_, o) => if nameB claim then (if indexB l0.length steps then .ok ((proveL ed (l0.map toC) (heldOf (l0.map toC) facts o) (steps.map Int.toNat) facts 0).1.isNone && has (setOf (proveL ed (l0.map toC) (heldOf (l0.map toC) facts o) (steps.map Int.toNat) facts 0).2) claim, atOf (proveL ed (l0.map toC) (heldOf (l0.map toC) facts o) (steps.map Int.toNat) facts 0).1) else .error (-1, 4)) else .error (-1, 2)
theorem ints_toNat {n : Nat} {steps : List Int} (h : indexB n steps = true) : ints (steps.map Int.toNat) = steps ∧ ∀ i ∈ steps.map Int.toNat, i < n := by
 unfold indexB at h
 rw [List.all_eq_true] at h
 have h2 : ∀ i ∈ steps, 0 ≤ i ∧ i ≤ (n : Int) - 1 := fun i hi => by have := h i hi; simpa using this
 constructor
 ·unfold ints
  rw [List.map_map]
  conv => rhs; rw [← List.map_id steps]
  apply List.map_congr_left
  intro i hi
  have := (h2 i hi).1
  simp only [Function.comp, id]
  show ((i.toNat : Nat) : Int) = i
  omega
 ·intro i hi
  obtain ⟨j, hj, rfl⟩ := List.mem_map.1 hi
  have := h2 j hj
  omega
set_option maxRecDepth 100000 in
set_option maxHeartbeats 2000000 in
theorem proves_question (lb eb fb clb stb s1 s2 : Nat) (A0 : Option Addr) (c0 : Nat) (l0 : List S25) (ed : Int) (A2 : Option Addr) (c2 : Nat) (facts : List ByteArray) (A3 : Option Addr) (c3 : Nat) (steps : List Int) (claim : ByteArray) (n1 : Bool) (n2 : Int) (w : World) (hl : w.heap[lb]? = some (.cells #[.slice A0 l0.length c0] 22 (0, 0))) (he : w.heap[eb]? = some (.cells #[.int .i64 ed] 3 (0, 0)))
  (hf : w.heap[fb]? = some (.cells #[.slice A2 facts.length c2] 23 (0, 0))) (hcl : w.heap[clb]? = some (.cells #[.string claim] 9 (0, 0))) (hst : w.heap[stb]? = some (.cells #[.slice A3 steps.length c3] 37 (0, 0))) (hs1 : w.heap[s1]? = some (.cells #[.bool n1] 4 (0, 0))) (hs2 : w.heap[s2]? = some (.cells #[.int .i64 n2] 3 (0, 0))) (hne : s2 ≠ s1) (hr0 : Kd.C k25 w A0 l0.length l0) (hc0 : l0.length ≤ c0) (hr2 : Kd.C Kd.string w A2 facts.length facts) (hc2 : facts.length ≤ c2) (hr3 : (Kd.int .i64).C w A3 steps.length steps) :
  Calls Tryz.prog 60 #[.pointer (some ⟨lb, 0, none⟩), .pointer (some ⟨eb, 0, none⟩), .pointer (some ⟨fb, 0, none⟩), .pointer (some ⟨clb, 0, none⟩), .pointer (some ⟨stb, 0, none⟩), .pointer (some ⟨s1, 0, none⟩), .pointer (some ⟨s2, 0, none⟩)] w (QPost2 w s1 s2 (provesOf l0 ed facts steps claim) fun _ v1 v2 r => v1 = .bool r.1 ∧ v2 = .int .i64 r.2) := by
 have HR0 := Aside0.mk hr0
 have HR2 := Aside0.mk hr2
 have HR3 := Aside0.mk hr3
 have HS1 := Aside0.mk hs1
 have HS2 := Aside0.mk hs2
 have HNE := Aside0.mk hne
 have HCL := Aside0.mk hcl
 have HSTB := Aside0.mk hst
 have hll := (Array.getElem?_eq_some_iff.1 hl).1
 have hel := (Array.getElem?_eq_some_iff.1 he).1
 have hfl := (Array.getElem?_eq_some_iff.1 hf).1
 have hs1l := (Array.getElem?_eq_some_iff.1 hs1).1
 have hs2l := (Array.getElem?_eq_some_iff.1 hs2).1
 have hcll := (Array.getElem?_eq_some_iff.1 hcl).1
 have hstl := (Array.getElem?_eq_some_iff.1 hst).1
 obtain ⟨S, hS⟩ : ∃ S : World → Prop, S = fun W => W.heap[lb]? = w.heap[lb]? ∧ W.heap[eb]? = w.heap[eb]? ∧ W.heap[fb]? = w.heap[fb]? := ⟨_, rfl⟩
 have S0 : S { w with drawn := w.drawn + 1 } := by rw [hS]; exact ⟨rfl, rfl, rfl⟩
 have SB : ∀ W, Below w.heap.size w W → S W := fun W hb => by rw [hS]; exact ⟨hb.block _ hll, hb.block _ hel, hb.block _ hfl⟩
 have SC : ∀ W, S W → W.cell? ⟨lb, 0, none⟩ = some (.slice A0 l0.length c0) ∧ W.cell? ⟨eb, 0, none⟩ = some (.int .i64 ed) ∧ W.cell? ⟨fb, 0, none⟩ = some (.slice A2 facts.length c2) := fun W hW => by
  rw [hS] at hW
  exact ⟨cell_of (hW.1.trans hl), cell_of (hW.2.1.trans he), cell_of (hW.2.2.trans hf)⟩
 have HSB := Aside0.mk SB
 have HSC := Aside0.mk SC
 have HS0 := Aside0.mk S0
 clear hr0 hr2 hr3 hs1 hs2 hS SB SC S0 hl he hf hcl hst hne
 refine callsK (args := [.pointer (some ⟨lb, 0, none⟩), .pointer (some ⟨eb, 0, none⟩), .pointer (some ⟨fb, 0, none⟩), .pointer (some ⟨clb, 0, none⟩), .pointer (some ⟨stb, 0, none⟩), .pointer (some ⟨s1, 0, none⟩), .pointer (some ⟨s2, 0, none⟩)]) Tryz.func60 rfl Tryz.ntmps60 (by simp) fun a HF0 => ?_
 have HF : Fr 38 [] [(0, .pointer (some ⟨lb, 0, none⟩)), (1, .pointer (some ⟨eb, 0, none⟩)), (2, .pointer (some ⟨fb, 0, none⟩)), (3, .pointer (some ⟨clb, 0, none⟩)), (4, .pointer (some ⟨stb, 0, none⟩)), (5, .pointer (some ⟨s1, 0, none⟩)), (6, .pointer (some ⟨s2, 0, none⟩))] a := HF0
 clear HF0
 refine wpIn_seq ?_
 refine wpIn_region_mix (by kernel_rfl) HF [(0, false), (2, false), (3, false), (1, true), (4, true), (5, false)] (S) (HS0.out) rfl (by kernel_rfl) (by kernel_rfl) (by kernel_rfl) (fun _ _ _ _ hd hq => ⟨hd.trans hq.1, hq.2⟩) fun K Pn hK hPn => ?_
 apply MixK.read
 ·rfl
 ·rfl
 ·rfl
 ·rfl
 ·intro W hW
  obtain ⟨k1, k2, k3⟩ := HSC.out W hW
  go_simp
  first | exact rfl | exact ⟨rfl, rfl⟩
 apply MixK.read
 ·rfl
 ·rfl
 ·rfl
 ·rfl
 ·intro W hW
  obtain ⟨k1, k2, k3⟩ := HSC.out W hW
  go_simp
  first | exact rfl | exact ⟨rfl, rfl⟩
 apply MixK.read
 ·rfl
 ·rfl
 ·rfl
 ·rfl
 ·intro W hW
  obtain ⟨k1, k2, k3⟩ := HSC.out W hW
  go_simp
  first | exact rfl | exact ⟨rfl, rfl⟩
 have hw1 : Below w.heap.size w { w with drawn := w.drawn + 1 } := ⟨rfl, rfl, rfl, Nat.le_refl _, fun _ _ => rfl⟩
 generalize hg1 : ({ w with drawn := w.drawn + 1 } : World) = w1 at hw1 ⊢
 clear hg1
 refine MixK.call rfl rfl rfl rfl ?_
 go_simp
 refine (bound_calls A0 c0 l0 w1 (Kd.C_below HR0.out hw1) hc0).mono ?_
 rintro e w2 ⟨hb2, hp⟩
 have hw2 : Below w.heap.size w w2 := below_then hw1 hw1.size hb2
 cases hbo : boundOf l0 with
 | error p =>
  obtain ⟨x, y⟩ := p
  rw [hbo] at hp
  cases hp
  exact hPn _ _ fun a' hd => ⟨hd, w2, hw2, by unfold provesOf askedOf; rw [hbo]; exact ⟨rfl, rfl⟩⟩
 | ok m =>
  rw [hbo] at hp
  obtain ⟨b, r, rfl, hbk, _, _⟩ := hp
  have hob := okBook hbo
  dsimp only
  refine ⟨HSB.out _ hw2, ?_⟩
  refine MixK.call rfl rfl rfl rfl ?_
  go_simp
  refine (made_any b r A0 c0 l0 m ed A2 c2 facts w2 hob hbk (Kd.C_below HR0.out hw2) hc0 (Kd.C_below HR2.out hw2) hc2).mono ?_
  rintro e w3 ⟨hb3, hp⟩
  have hw3 : Below w.heap.size w w3 := below_then hw2 hw2.size hb3
  cases hmo : madeOf m l0 ed facts with
  | error p =>
   obtain ⟨x, y⟩ := p
   rw [hmo] at hp
   cases hp
   exact hPn _ _ fun a' hd => ⟨hd, w3, hw3, by unfold provesOf askedOf; rw [hbo]; dsimp only; rw [hmo]; exact ⟨rfl, rfl⟩⟩
  | ok o =>
   rw [hmo] at hp
   obtain ⟨wb, h, g, rr, OV, rfl, hwa, hro⟩ := hp
   have HAS : Aside0 (askedOf l0 ed facts = .ok (m, o)) := ⟨by unfold askedOf; rw [hbo]; dsimp only; rw [hmo]⟩
   have HMO := Aside0.mk hmo
   have HOB := Aside0.mk hob
   have HWA := Aside0.mk hwa
   have HRO := Aside0.mk hro
   have HW3 := Aside0.mk hw3
   clear hbo hmo hob hwa hro hw3 hb3 hw2 hb2 hw1 hbk
   dsimp only
   refine ⟨HSB.out _ HW3.out, ?_⟩
   apply MixK.read
   ·rfl
   ·rfl
   ·rfl
   ·rfl
   ·intro W hW
    go_simp
    first | exact rfl | exact ⟨rfl, rfl⟩
   refine MixK.nil (hK _ _ fun a' hf' => ?_)
   clear hK K HF hPn Pn
   have HF : Fr 38 [] [(3, .pointer (some ⟨clb, 0, none⟩)), (4, .pointer (some ⟨stb, 0, none⟩)), (5, .pointer (some ⟨s1, 0, none⟩)), (6, .pointer (some ⟨s2, 0, none⟩)), (7, .pointer (some ⟨wb, 0, none⟩))] a' := hf'.sub ⟨rfl, rfl, rfl, rfl, rfl, trivial⟩
   clear hf'
   have hcc := cell_of ((HW3.out.block clb hcll).trans HCL.out)
   refine wpIn_seq ?_
   refine wpIn_region_p (fun _ => trivial) rfl wideC HF fun K Pn hK hPn => ?_
   iterate 2 (refine OpsK.step rfl rfl rfl ?_; go_simp)
   refine (named_any claim w3).mono ?_
   rintro e w4 ⟨rfl, hb4⟩
   dsimp only
   refine OpsK.step rfl rfl rfl ?_
   go_simp
   cases hnm : nameB claim with
   | false =>
    refine (need_false _ _ _).mono ?_
    rintro e w5 ⟨rfl, rfl⟩
    exact hPn _ _ fun a' hd => ⟨hd, w4, below_then HW3.out HW3.out.size hb4, by unfold provesOf; rw [HAS.out]; dsimp only; rw [hnm]; exact ⟨rfl, rfl⟩⟩
   | true =>
    refine (need_true _ _ _).mono ?_
    rintro e w5 ⟨rfl, rfl⟩
    dsimp only
    refine OpsK.nil (hK _ _ fun a' hf' => ?_)
    clear hK K HF hPn Pn
    have HF : Fr 38 [] [(3, .pointer (some ⟨clb, 0, none⟩)), (4, .pointer (some ⟨stb, 0, none⟩)), (5, .pointer (some ⟨s1, 0, none⟩)), (6, .pointer (some ⟨s2, 0, none⟩)), (7, .pointer (some ⟨wb, 0, none⟩))] a' := hf'.sub ⟨rfl, rfl, rfl, rfl, rfl, trivial⟩
    clear hf' hcc
    have HNM := Aside0.mk hnm
    clear hnm
    have hw4 : Below w.heap.size w w4 := below_then HW3.out HW3.out.size hb4
    have hwa4 := HWA.out.below hb4
    have HW4 := Aside0.mk hw4
    have HWA4 := Aside0.mk hwa4
    have hlst : stb < w4.heap.size := by have := hw4.size; omega
    have HSTC := Aside0.mk ((hw4.block stb hstl).trans HSTB.out)
    have hrd : ∀ W, Below w4.heap.size w4 W → W.cell? ⟨wb, 0, none⟩ = some (.pointer (some ⟨b, 0, none⟩)) ∧ W.cell? ⟨stb, 0, none⟩ = some (.slice A3 steps.length c3) := fun W hW =>
     ⟨(hwa4.below hW).cells.1, cell_of ((hW.block stb hlst).trans HSTC.out)⟩
    have HRD := Aside0.mk hrd
    clear hrd hwa4 hw4 hb4
    refine wpIn_seq ?_
    refine wpIn_region_mix (by kernel_rfl) HF [(0, false), (1, false), (2, false), (3, false), (4, false), (5, true)] (fun W => Below w4.heap.size w4 W) (⟨rfl, rfl, rfl, Nat.le_refl _, fun _ _ => rfl⟩) rfl (by kernel_rfl) (by kernel_rfl) (by kernel_rfl) (fun _ _ _ _ hd hq => ⟨hd.trans hq.1, hq.2⟩) fun K Pn hK hPn => ?_
    apply MixK.read
    ·rfl
    ·rfl
    ·rfl
    ·rfl
    ·intro W hW
     go_simp
     first | exact rfl | exact ⟨rfl, rfl⟩
    apply MixK.read
    ·rfl
    ·rfl
    ·rfl
    ·rfl
    ·intro W hW
     go_simp
     first | exact rfl | exact ⟨rfl, rfl⟩
    apply MixK.read
    ·rfl
    ·rfl
    ·rfl
    ·rfl
    ·intro W hW
     go_simp
     first | exact rfl | exact ⟨rfl, rfl⟩
    apply MixK.read
    ·rfl
    ·rfl
    ·rfl
    ·rfl
    ·intro W hW
     obtain ⟨k1, k2⟩ := HRD.out W hW
     go_simp
     first | exact rfl | exact ⟨rfl, rfl⟩
    apply MixK.read
    ·rfl
    ·rfl
    ·rfl
    ·rfl
    ·intro W hW
     obtain ⟨k1, k2⟩ := HRD.out W hW
     go_simp
     first | exact rfl | exact ⟨rfl, rfl⟩
    have hw5 : Below w4.heap.size w4 { w4 with drawn := w4.drawn + 1 } := ⟨rfl, rfl, rfl, Nat.le_refl _, fun _ _ => rfl⟩
    generalize hg1 : ({ w4 with drawn := w4.drawn + 1 } : World) = w5 at hw5 ⊢
    clear hg1
    have hwx : Below w.heap.size w w5 := below_then HW4.out HW4.out.size hw5
    refine MixK.call rfl rfl rfl rfl ?_
    go_simp
    refine (index_steps b r A0 c0 l0 m A3 c3 steps w5 (HWA4.out.below hw5).book HOB.out.len (Kd.C_below HR3.out hwx)).mono ?_
    rintro e w6 ⟨he6, hb6⟩
    have hw46 : Below w4.heap.size w4 w6 := below_then hw5 hw5.size hb6
    have hw6 : Below w.heap.size w w6 := below_then hwx hwx.size hb6
    cases hin : indexB l0.length steps with
    | false =>
     rw [hin] at he6
     cases he6
     exact hPn _ _ fun a' hd => ⟨hd, w6, hw6, by unfold provesOf; rw [HAS.out]; dsimp only; rw [HNM.out, hin]; exact ⟨rfl, rfl⟩⟩
    | true =>
     rw [hin] at he6
     cases he6
     refine ⟨hw46, ?_⟩
     refine MixK.nil (hK _ _ fun a' hf' => ?_)
     clear hK K HF hPn Pn
     have HF : Fr 38 [] [(3, .pointer (some ⟨clb, 0, none⟩)), (4, .pointer (some ⟨stb, 0, none⟩)), (5, .pointer (some ⟨s1, 0, none⟩)), (6, .pointer (some ⟨s2, 0, none⟩)), (7, .pointer (some ⟨wb, 0, none⟩))] a' := hf'.sub ⟨rfl, rfl, rfl, rfl, rfl, trivial⟩
     clear hf'
     obtain ⟨hsn, hsl⟩ := ints_toNat hin
     obtain ⟨sl, hslx⟩ : ∃ sl, sl = steps.map Int.toNat := ⟨_, rfl⟩
     rw [← hslx] at hsn hsl
     have hslen : steps.length = sl.length := by rw [hslx, List.length_map]
     have hwa6 := HWA4.out.below hw46
     have hr36 := Kd.C_below HR3.out hw6
     rw [← hsn] at hr36
     have HCW := Aside0.mk (broken_calls wb b r h g rr A0 c0 l0 m ed _ facts _ _ A3 c3 sl w6 (Kd.C_below HR0.out hw6) hsl hwa6 hr36 HOB.out.len)
     have hc5 := (HRD.out _ hw46).2
     rw [hslen] at hc5
     have HSX := Aside0.mk hslx
     have HIN := Aside0.mk hin
     have HW6 := Aside0.mk hw6
     clear hslx hin hw6 hr36 hwa6 hsl hsn hslen hw46 hb6 hwx hw5
     refine wpIn_seq ?_
     refine wpIn_region_k (fun _ => trivial) rfl wideC HF fun K hK => ?_
     iterate 3 (refine OpsK.step rfl rfl rfl ?_; go_simp)
     refine HCW.out.mono ?_
     rintro e w7 ⟨km, rfl, hm7, _, hb7⟩
     dsimp only
     iterate 5 (refine OpsK.step rfl rfl rfl ?_; go_simp)
     refine OpsK.nil (hK _ _ fun a' hf' => ?_)
     clear hK K HF
     have HF : Fr 38 [] [(3, .pointer (some ⟨clb, 0, none⟩)), (5, .pointer (some ⟨s1, 0, none⟩)), (6, .pointer (some ⟨s2, 0, none⟩)), (8, .int .i64 (atOf (proveL ed (l0.map toC) (heldOf (l0.map toC) facts o) sl facts 0).1)), (9, .map (some km))] a' := hf'.sub ⟨rfl, rfl, rfl, rfl, rfl, trivial⟩
     clear hf'
     have hw7 : Below w.heap.size w w7 := below_then HW6.out HW6.out.size hb7
     have hcc := cell_of ((hw7.block clb hcll).trans HCL.out)
     have g1 := (hw7.block s1 hs1l).trans HS1.out
     have g2 := (hw7.block s2 hs2l).trans HS2.out
     have u1 := cell_of g1
     have u2 := frozen_of g1
     have u3 : ∀ v, (w7.setCell ⟨s1, 0, none⟩ v).heap[s2]? = some (.cells #[.int .i64 n2] 3 (0, 0)) := fun v => (Below.heap_setCell _ _ _ _ HNE.out).trans g2
     have u4 := fun v => cell_of (u3 v)
     have u5 := fun v => frozen_of (u3 v)
     have hans : provesOf l0 ed facts steps claim = .ok ((proveL ed (l0.map toC) (heldOf (l0.map toC) facts o) sl facts 0).1.isNone && has (setOf (proveL ed (l0.map toC) (heldOf (l0.map toC) facts o) sl facts 0).2) claim, atOf (proveL ed (l0.map toC) (heldOf (l0.map toC) facts o) sl facts 0).1) := by
      unfold provesOf
      rw [HAS.out]
      dsimp only
      rw [HNM.out, HIN.out, ← HSX.out]
      rfl
     have hlk : (Instr.lookup 71 (.map (some km)) (.string claim) false).run Tryz.prog w7 = .ok (.bool (has (setOf (proveL ed (l0.map toC) (heldOf (l0.map toC) facts o) sl facts 0).2) claim)) w7 := by
      rw [← bool_of_true (setOf_true _)]
      exact run_lookup_at keyS Tryz.underlying71 Tryz.underlying9 hm7 zero4 _
     have HB7 := Aside0.mk hw7
     obtain ⟨bh, hbh⟩ : ∃ bh, bh = has (setOf (proveL ed (l0.map toC) (heldOf (l0.map toC) facts o) sl facts 0).2) claim := ⟨_, rfl⟩
     rw [← hbh] at hlk hans
     obtain ⟨pn, hpn⟩ : ∃ pn, pn = (proveL ed (l0.map toC) (heldOf (l0.map toC) facts o) sl facts 0).1 := ⟨_, rfl⟩
     rw [← hpn] at hans HF
     have HANS := Aside0.mk hans
     clear hw7 g1 g2 u3 hans hbh hpn hm7 hb7 hc5
     cases pn with
     | none =>
      have HF : Fr 38 [] [(3, .pointer (some ⟨clb, 0, none⟩)), (5, .pointer (some ⟨s1, 0, none⟩)), (6, .pointer (some ⟨s2, 0, none⟩)), (8, .int .i64 (-1)), (9, .map (some km))] a' := HF
      refine wpIn_region_k (fun _ => trivial) rfl wideC HF fun K hK => ?_
      iterate 10 (refine OpsK.step rfl rfl rfl ?_; go_simp)
      refine OpsK.nil (hK _ _ fun a9 hf' => ?_)
      clear hK K HF
      refine hf'.end0 rfl ⟨w7, HB7.out, ?_⟩
      rw [HANS.out]
      exact ⟨_, _, ⟨rfl, rfl⟩, rfl, rfl⟩
     | some k =>
      have hk0 : ¬ ((k : Nat) : Int) < 0 := by omega
      have HF : Fr 38 [] [(3, .pointer (some ⟨clb, 0, none⟩)), (5, .pointer (some ⟨s1, 0, none⟩)), (6, .pointer (some ⟨s2, 0, none⟩)), (8, .int .i64 (k : Nat)), (9, .map (some km))] a' := HF
      refine wpIn_region_k (fun _ => trivial) rfl wideC HF fun K hK => ?_
      iterate 3 (refine OpsK.step rfl rfl rfl ?_; go_simp)
      refine OpsK.skip rfl rfl ?_
      refine OpsK.skip rfl rfl ?_
      refine OpsK.skip rfl rfl ?_
      iterate 4 (refine OpsK.step rfl rfl rfl ?_; go_simp)
      refine OpsK.nil (hK _ _ fun a9 hf' => ?_)
      clear hK K HF
      refine hf'.end0 rfl ⟨w7, HB7.out, ?_⟩
      rw [HANS.out]
      exact ⟨_, _, ⟨rfl, rfl⟩, rfl, rfl⟩
end
end Go.Proofs.YtlhkeohcickiaaaGreatDoor.E

