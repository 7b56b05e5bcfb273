/- Part 22 of 36 of the proof of ProtestProofs: lemmas, without conditions. -/
import Derived.Test.YtlhkeohcickiaaaGreatDoorKP21
import Derived.RangeFuncRecord
import Derived.Test.YtlhkeohcickiaaaGreatDoorKP19
import Derived.Maps.AppendAt
set_option linter.all false
namespace Go.Proofs.YtlhkeohcickiaaaGreatDoor.E
open Go.RowKit Go.Proofs.YtlhkeohcickiaaaGreatDoor.H Go.Proofs.YtlhkeohcickiaaaGreatDoorW.PrintWords Go.Proofs.YtlhkeohcickiaaaGreatDoorW.PrintLast Go.Proofs.YtlhkeohcickiaaaGreatDoorW.PrintMore
section
open Prot (heldOf roundL roundP addL mkLevel at_ firesB)
structure WAt (W : World) (wb b r h g rr : Nat) (sl : Value) (m : List (ByteArray × Nat)) (top ed : Int) (hs gs rs : List (ByteArray × Value)) (ov : Value) : Prop where
 blk : W.heap[wb]? = some (.cells #[.pointer (some ⟨b, 0, none⟩), .int .i64 ed, .map (some h), .map (some g), .map (some rr), ov] 83 (0, 0))
 book : BookAt W b r sl m top
 held : H.MapAt H.encS W h hs
 given : H.MapAt H.encS W g gs
 reasons : H.MapAt H.encS W rr rs
variable {W W' : World} {wb b r h g rr : Nat} {sl : Value} {m : List (ByteArray × Nat)} {top ed : Int} {hs gs rs : List (ByteArray × Value)} {ov : Value}
theorem WAt.lt (h1 : WAt W wb b r h g rr sl m top ed hs gs rs ov) : wb < W.heap.size := (Array.getElem?_eq_some_iff.1 h1.blk).1
theorem WAt.below (h1 : WAt W wb b r h g rr sl m top ed hs gs rs ov) (hb : Below W.heap.size W W') : WAt W' wb b r h g rr sl m top ed hs gs rs ov :=
 ⟨(hb.block _ h1.lt).trans h1.blk, h1.book.below hb, h1.held.below hb h1.held.lt, h1.given.below hb h1.given.lt, h1.reasons.below hb h1.reasons.lt⟩
theorem WAt.cells (h1 : WAt W wb b r h g rr sl m top ed hs gs rs ov) : W.cell? ⟨wb, 0, none⟩ = some (.pointer (some ⟨b, 0, none⟩)) ∧ W.cell? ⟨wb, 1, none⟩ = some (.int .i64 ed) ∧ W.cell? ⟨wb, 2, none⟩ = some (.map (some h)) ∧
  W.cell? ⟨wb, 3, none⟩ = some (.map (some g)) ∧ W.cell? ⟨wb, 4, none⟩ = some (.map (some rr)) ∧ W.cell? ⟨wb, 5, none⟩ = some ov ∧ W.frozen? ⟨wb, 5, none⟩ = false := by
 refine ⟨?_, ?_, ?_, ?_, ?_, ?_, ?_⟩ <;> first | (unfold World.cell?; rw [h1.blk]; rfl) | (unfold World.frozen?; rw [h1.blk]; rfl)
theorem roundP_eq (lv : ByteArray → Nat) (s : Nat) (held : List ByteArray) (ed : Int) (c : Prot.Cl ByteArray) : roundP lv ed s held c = (decide (lv c.thn = s) && firesW (setOf held) ed c.lo c.hi c.ifs c.unl c.thn) := by
 unfold roundP
 congr 1
 rw [Bool.eq_iff_iff]
 simp only [firesW, firesB, Prot.standsB, Bool.and_eq_true, decide_eq_true_eq, Bool.not_eq_true', List.all_eq_true, List.any_eq_false, has_setOf, decide_eq_false_iff_not, List.contains_iff_mem]
 constructor
 ·rintro ⟨⟨a, c, d⟩, b⟩
  exact ⟨by simpa using a, by simpa using b, c, fun x hx => by simpa using d x hx⟩
 ·rintro ⟨a, b, c, d⟩
  exact ⟨⟨by simpa using a, c, fun x hx => by simpa using d x hx⟩, by simpa using b⟩
def upTo (lv : ByteArray → Nat) (ed : Int) (s : Nat) (held : List ByteArray) (bk : List (Prot.Cl ByteArray)) (n : Nat) : List Nat := (List.range n).filter fun i => roundP lv ed s held (at_ bk i)
theorem upTo_succ (lv : ByteArray → Nat) (ed : Int) (s : Nat) (held : List ByteArray) (bk : List (Prot.Cl ByteArray)) (n : Nat) :
  upTo lv ed s held bk (n + 1) = upTo lv ed s held bk n ++ (if roundP lv ed s held (at_ bk n) then [n] else []) := by
 unfold upTo
 rw [List.range_succ, List.filter_append]
 congr 1
 simp only [List.filter_cons, List.filter_nil]
theorem upTo_length (lv : ByteArray → Nat) (ed : Int) (s : Nat) (held : List ByteArray) (bk : List (Prot.Cl ByteArray)) (n : Nat) : (upTo lv ed s held bk n).length ≤ n := by
 unfold upTo
 refine Nat.le_trans (List.length_filter_le _ _) ?_
 simp
theorem at_toC (l0 : List S25) {i : Nat} (h : i < l0.length) : at_ (l0.map toC) i = toC (rd_T25 l0 (i : Int)) := by
 simp [at_, rd_T25, List.getD_eq_getElem?_getD, List.getElem?_eq_getElem h]
def ints (l : List Nat) : List Int := l.map Int.ofNat
set_option maxHeartbeats 4000000 in
set_option maxRecDepth 100000 in
theorem rounds_loop (L pb qb : Nat) (A0 : Option Addr) (c0 : Nat) (l0 : List S25) (s : Nat) (facts : List ByteArray) (hlen : l0.length ≤ 64) (I : List Nat → World → Prop)
  (hI : ∀ o W, I o W → Kd.C k25 W A0 l0.length l0 ∧ (∃ gs rs ov, WAt W wb b r h g rr (.slice A0 l0.length c0) m (topOf m) ed (setOf (heldOf (l0.map toC) facts o)) gs rs ov) ∧
   W.heap[pb]? = some (.cells #[.pointer (some ⟨wb, 0, none⟩)] 75 (0, 0)) ∧ W.heap[qb]? = some (.cells #[.int .i64 (s : Nat)] 3 (0, 0)))
  (hmono : ∀ o W W', I o W → Below W.heap.size W W' → I o W')
  (hyield : ∀ o wx W A c l, I o wx → Below wx.heap.size wx W → (∀ a : Addr, A = some a → wx.heap.size ≤ a.block) → roundL (Prot.get m) ed s (heldOf (l0.map toC) facts o) (l0.map toC) = l → l ≠ [] → (Kd.int .i64).C W A (ints l).length (ints l) → (ints l).length ≤ c →
   ∃ fn tmps assign body, (Instr.yield L #[.slice A (ints l).length c]).run Tryz.prog W = .ok (.round L fn tmps assign body) W ∧
    ∀ n, RoundIn Fence.wide n Tryz.prog L fn tmps assign body W (fun e W' => e = .returned (.bool true) ∧ I (addL (l0.map toC) facts l o) W'))
  (k : Nat) (o o' : List Nat) (w : World) (hi : I o w) (hk : mkLevel (Prot.get m) ed (l0.map toC) facts s k o = some o') :
  Calls Tryz.prog 94 #[.func (.yield L) #[] #[], .pointer (some ⟨pb, 0, none⟩), .pointer (some ⟨qb, 0, none⟩)] w fun e W' => e = .returned (.tuple #[]) ∧ I o' W' := by
 have HI := Aside0.mk hi
 have HIn := Aside0.mk hI
 have HM := Aside0.mk hmono
 have HY := Aside0.mk hyield
 have HK := Aside0.mk hk
 clear hi hI hmono hyield hk
 go_enter Tryz.func94, Tryz.ntmps94
 go_wp2
 go_loopg [] k (fun kq w' => ∃ o2, Aside0 (mkLevel (Prot.get m) ed (l0.map toC) facts s kq o2 = some o') ∧ Aside0 (I o2 w'))
 case atStart => exact ⟨o, HK, HI⟩
 case round =>
  obtain ⟨o2, HK2, HI2⟩ := hrel
  clear HK HI
  cases gk with
  | zero => exact absurd HK2.out (by simp [mkLevel])
  | succ k1 =>
   obtain ⟨hc, ⟨gs, rs, ov, hwa⟩, hp, hq⟩ := HIn.out o2 wr HI2.out
   have HRC := Aside0.mk hc
   have HWA := Aside0.mk hwa
   have hpc := cell_of hp
   have hqc := cell_of hq
   have HP := Aside0.mk hp
   have HQ := Aside0.mk hq
   obtain ⟨y0, y1, y2, y3, y4, y5, y6⟩ := hwa.cells
   obtain ⟨q0, q1, q2, q3⟩ := hwa.book.cell
   clear hc hp hq hwa
   obtain ⟨wx, hwx⟩ : ∃ wx : World, wx = wr := ⟨_, rfl⟩
   go_wp2
   subst hwx
   obtain ⟨HELD, hheld⟩ : ∃ H, H = heldOf (l0.map toC) facts o2 := ⟨_, rfl⟩
   obtain ⟨UP, hup⟩ : ∃ U, U = upTo (Prot.get m) ed s HELD (l0.map toC) := ⟨_, rfl⟩
   have HHELD := Aside0.mk hheld
   have HUP := Aside0.mk hup
   clear hheld hup
   go_loopw [4, 15] (fun v4 v15 w' => ∃ (i : Nat), v15 = .int .i64 i ∧ i ≤ l0.length ∧ Aside0 (Kd.R (Kd.int .i64) 3 w' wx.heap.size (fun _ => True) v4 (ints (UP i))) ∧ Aside0 (Below wx.heap.size wx w')) (fun _ v15 _ => l0.length - (intOf v15).toNat)
   case atStart => exact ⟨0, rfl, Nat.zero_le _, ⟨by rw [HUP.out]; exact Kd.R_nil _ _ _ _ _⟩, ⟨Below.refl _ _⟩⟩
   case round =>
    obtain ⟨i, rfl, hil, HO, HB⟩ := hrel
    by_cases hlt : i < l0.length
    ·have HRr := Kd.C_below HRC.out HB.out
     obtain ⟨ad, A3, c3, A4, c4, rfl, x0, x1, x2, x3, x4, x5, l3, g3, l4, g4⟩ := at_T25 HRr (i : Int) (by omega) (by omega)
     have HL3 := Aside0.mk l3
     have HL4 := Aside0.mk l4
     have HG3 := Aside0.mk g3
     have HG4 := Aside0.mk g4
     clear l3 l4 g3 g4 HRr
     simp only [Int.toNat_natCast] at x0 x1 x2 x3 x4 x5
     obtain ⟨x, hx⟩ : ∃ x, x = rd_T25 l0 (i : Int) := ⟨_, rfl⟩
     rw [← hx] at x0 x1 x2 x3 x4 x5 HL3 HL4 HG3 HG4
     have HX := Aside0.mk hx
     clear hx
     have hu25 := Tryz.underlying25
     have HWA2 := Aside0.mk (HWA.out.below HB.out)
     obtain ⟨y0, y1, y2, y3, y4, y5, y6⟩ := HWA2.out.cells
     obtain ⟨q0, q1, q2, q3⟩ := HWA2.out.book.cell
     have hpc := cell_of ((HB.out.block pb (Array.getElem?_eq_some_iff.1 HP.out).1).trans HP.out)
     have hqc := cell_of ((HB.out.block qb (Array.getElem?_eq_some_iff.1 HQ.out).1).trans HQ.out)
     go_wp2
     have hne : ad.block ≠ wx.heap.size ∨ True := .inr trivial
     obtain ⟨w4, hw4⟩ : ∃ w4, wr.alloc (.cells #[.string x.f0, .int .i64 x.f1, .int .i64 x.f2, .slice A3 x.f3.length c3, .slice A4 x.f4.length c4, .string x.f5] 25) = w4 := ⟨_, rfl⟩
     have h4 := heap_alloc_new wr (.cells #[.string x.f0, .int .i64 x.f1, .int .i64 x.f2, .slice A3 x.f3.length c3, .slice A4 x.f4.length c4, .string x.f5] 25)
     have hb4 : Below wr.heap.size wr w4 := by rw [← hw4]; exact (Below.refl _ wr).alloc (Nat.le_refl _) _
     have hb4' : Below wx.heap.size wx w4 := below_then HB.out HB.out.size hb4
     rw [hw4] at h4
     have hsz4 : wr.heap.size < w4.heap.size := (Array.getElem?_eq_some_iff.1 h4).1
     have hwa4 := HWA.out.below hb4'
     rw [hw4]
     have hf : ∀ W, Below w4.heap.size w4 W → W.cell? ⟨pb, 0, none⟩ = some (.pointer (some ⟨wb, 0, none⟩)) ∧ W.cell? ⟨qb, 0, none⟩ = some (.int .i64 (s : Nat)) ∧ W.cell? ⟨wb, 0, none⟩ = some (.pointer (some ⟨b, 0, none⟩)) ∧
       W.cell? ⟨b, 1, none⟩ = some (.map (some r)) ∧ W.cell? ⟨wr.heap.size, 0, none⟩ = some (.string x.f0) ∧ W.cell? ⟨wr.heap.size, 1, none⟩ = some (.int .i64 x.f1) ∧ W.cell? ⟨wr.heap.size, 2, none⟩ = some (.int .i64 x.f2) ∧
       W.cell? ⟨wr.heap.size, 3, none⟩ = some (.slice A3 x.f3.length c3) ∧ W.cell? ⟨wr.heap.size, 4, none⟩ = some (.slice A4 x.f4.length c4) ∧ W.cell? ⟨wr.heap.size, 5, none⟩ = some (.string x.f5) ∧
       (Instr.lookup 62 (.map (some r)) (.string x.f5) false).run Tryz.prog W = .ok (.int .i64 (Prot.get m x.f5 : Nat)) W := by
      intro W hW
      have hbW := below_then hb4' hb4'.size hW
      have hwa := HWA.out.below hbW
      have e := (hW.block _ hsz4).trans h4
      have e1 := (hbW.block pb (Array.getElem?_eq_some_iff.1 HP.out).1).trans HP.out
      have e2 := (hbW.block qb (Array.getElem?_eq_some_iff.1 HQ.out).1).trans HQ.out
      refine ⟨cell_of e1, cell_of e2, hwa.cells.1, hwa.book.cell.2.1, ?_, ?_, ?_, ?_, ?_, ?_, ?_⟩
      iterate 6 (· unfold World.cell?; rw [e]; rfl)
      rw [← emb_get]
      exact run_lookup_at keyS Tryz.underlying62 Tryz.underlying9 hwa.book.map zero3 _
     have hfi : ∀ W, Below w4.heap.size w4 W → Calls Tryz.prog 95 #[.pointer (some ⟨wb, 0, none⟩), .agg #[.string x.f0, .int .i64 x.f1, .int .i64 x.f2, .slice A3 x.f3.length c3, .slice A4 x.f4.length c4, .string x.f5]] W fun e W' => e = .returned (.bool (firesW (setOf HELD) ed x.f1 x.f2 x.f3 x.f4 x.f5)) ∧ Below W.heap.size W W' := by
      intro W hW
      have hbW := below_then hb4' hb4'.size hW
      have hwa := HWA.out.below hbW
      have hbr : Below wr.heap.size wr W := below_then hb4 hb4.size hW
      rw [HHELD.out]
      exact fires_calls wb h _ _ _ _ ed _ (setOf_true _) _ _ _ _ _ _ _ _ _ _ W hwa.blk hwa.held (Kd.C_below HG3.out hbr) HL3.out (Kd.C_below HG4.out hbr) HL4.out
     have hat : at_ (l0.map toC) i = toC x := by rw [HX.out]; exact at_toC l0 hlt
     have hrp : roundP (Prot.get m) ed s HELD (at_ (l0.map toC) i) = (decide (Prot.get m x.f5 = s) && firesW (setOf HELD) ed x.f1 x.f2 x.f3 x.f4 x.f5) := by
      rw [hat, roundP_eq]; rfl
     have HF := Aside0.mk hf
     have HFI := Aside0.mk hfi
     have HRP := Aside0.mk hrp
     have HO4 : Aside0 ((Kd.int .i64).R 3 w4 wx.heap.size (fun _ => True) u4 (ints (UP i))) := ⟨Kd.R_below HO.out hb4⟩
     have HB4 := Aside0.mk hb4'
     have HS4 := Aside0.mk hsz4
     clear hne hf hfi hrp hat hwa4 hb4 hb4' hsz4 h4 y0 y1 y2 y3 y4 y5 y6 q0 q1 q2 q3 hpc hqc x0 x1 x2 x3 x4 x5
     by_cases hs : Prot.get m x.f5 = s
     ·have hd : decide (((Prot.get m x.f5 : Nat) : Int) = ((s : Nat) : Int)) = true := decide_eq_true (by omega)
      have hd2 : (((Prot.get m x.f5 : Nat) : Int) == ((s : Nat) : Int)) = true := by rw [hs]; exact beq_self_eq_true _
      have HS := Aside0.mk hs
      cases hfire : firesW (setOf HELD) ed x.f1 x.f2 x.f3 x.f4 x.f5 with
      | true =>
       rw [hfire] at HFI HRP
       have HUPS : Aside0 (UP (i + 1) = UP i ++ [i]) := ⟨by rw [HUP.out, upTo_succ, HRP.out]; simp [hs]⟩
       clear hfire hs
       refine wp_region_steady (by kernel_rfl) (Below w4.heap.size w4) (Below.refl _ w4).drew (by decide +kernel) ?_
       apply Chain.val
       ·rfl
       ·intro W hW
        obtain ⟨y0, y1, y2, y3, y4, y5, y6, y7, y8, y9, ya⟩ := HF.out W hW
        go_simp
        first | exact rfl | exact ⟨rfl, hW⟩
       simp only [Act.put, List.setIfInBounds_toArray, List.set_cons_succ, List.set_cons_zero]
       apply Chain.val
       ·rfl
       ·intro W hW
        obtain ⟨y0, y1, y2, y3, y4, y5, y6, y7, y8, y9, ya⟩ := HF.out W hW
        go_simp
        first | exact rfl | exact ⟨rfl, hW⟩
       simp only [Act.put, List.setIfInBounds_toArray, List.set_cons_succ, List.set_cons_zero]
       apply Chain.val
       ·rfl
       ·intro W hW
        obtain ⟨y0, y1, y2, y3, y4, y5, y6, y7, y8, y9, ya⟩ := HF.out W hW
        go_simp
        first | exact rfl | exact ⟨rfl, hW⟩
       simp only [Act.put, List.setIfInBounds_toArray, List.set_cons_succ, List.set_cons_zero]
       apply Chain.val
       ·rfl
       ·intro W hW
        obtain ⟨y0, y1, y2, y3, y4, y5, y6, y7, y8, y9, ya⟩ := HF.out W hW
        go_simp
        first | exact rfl | exact ⟨rfl, hW⟩
       simp only [Act.put, List.setIfInBounds_toArray, List.set_cons_succ, List.set_cons_zero]
       apply Chain.val
       ·rfl
       ·intro W hW
        obtain ⟨y0, y1, y2, y3, y4, y5, y6, y7, y8, y9, ya⟩ := HF.out W hW
        go_simp
        first | exact rfl | exact ⟨rfl, hW⟩
       simp only [Act.put, List.setIfInBounds_toArray, List.set_cons_succ, List.set_cons_zero]
       apply Chain.val
       ·rfl
       ·intro W hW
        obtain ⟨y0, y1, y2, y3, y4, y5, y6, y7, y8, y9, ya⟩ := HF.out W hW
        go_simp
        first | exact rfl | exact ⟨rfl, hW⟩
       simp only [Act.put, List.setIfInBounds_toArray, List.set_cons_succ, List.set_cons_zero]
       apply Chain.val
       ·rfl
       ·intro W hW
        obtain ⟨y0, y1, y2, y3, y4, y5, y6, y7, y8, y9, ya⟩ := HF.out W hW
        go_simp
        first | exact rfl | exact ⟨rfl, hW⟩
       simp only [Act.put, List.setIfInBounds_toArray, List.set_cons_succ, List.set_cons_zero]
       apply Chain.val
       ·rfl
       ·intro W hW
        obtain ⟨y0, y1, y2, y3, y4, y5, y6, y7, y8, y9, ya⟩ := HF.out W hW
        go_simp
        first | exact rfl | exact ⟨rfl, hW⟩
       simp only [Act.put, List.setIfInBounds_toArray, List.set_cons_succ, List.set_cons_zero]
       apply Chain.val
       ·rfl
       ·intro W hW
        obtain ⟨y0, y1, y2, y3, y4, y5, y6, y7, y8, y9, ya⟩ := HF.out W hW
        go_simp
        first | exact rfl | exact ⟨rfl, hW⟩
       simp only [Act.put, List.setIfInBounds_toArray, List.set_cons_succ, List.set_cons_zero]
       apply Chain.val
       ·rfl
       ·intro W hW
        obtain ⟨y0, y1, y2, y3, y4, y5, y6, y7, y8, y9, ya⟩ := HF.out W hW
        go_simp
        first | exact rfl | exact ⟨rfl, hW⟩
       simp only [Act.put, List.setIfInBounds_toArray, List.set_cons_succ, List.set_cons_zero]
       apply Chain.val
       ·rfl
       ·intro W hW
        obtain ⟨y0, y1, y2, y3, y4, y5, y6, y7, y8, y9, ya⟩ := HF.out W hW
        go_simp
        first | exact rfl | exact ⟨rfl, hW⟩
       simp only [Act.put, List.setIfInBounds_toArray, List.set_cons_succ, List.set_cons_zero]
       apply Chain.val
       ·rfl
       ·intro W hW
        obtain ⟨y0, y1, y2, y3, y4, y5, y6, y7, y8, y9, ya⟩ := HF.out W hW
        go_simp
        first | exact rfl | exact ⟨rfl, hW⟩
       simp only [Act.put, List.setIfInBounds_toArray, List.set_cons_succ, List.set_cons_zero]
       apply Chain.val
       ·rfl
       ·intro W hW
        obtain ⟨y0, y1, y2, y3, y4, y5, y6, y7, y8, y9, ya⟩ := HF.out W hW
        go_simp
        first | exact rfl | exact ⟨rfl, hW⟩
       simp only [Act.put, List.setIfInBounds_toArray, List.set_cons_succ, List.set_cons_zero]
       apply Chain.val
       ·rfl
       ·intro W hW
        obtain ⟨y0, y1, y2, y3, y4, y5, y6, y7, y8, y9, ya⟩ := HF.out W hW
        go_simp
        first | exact rfl | exact ⟨rfl, hW⟩
       simp only [Act.put, List.setIfInBounds_toArray, List.set_cons_succ, List.set_cons_zero]
       apply Chain.val
       ·rfl
       ·intro W hW
        obtain ⟨y0, y1, y2, y3, y4, y5, y6, y7, y8, y9, ya⟩ := HF.out W hW
        go_simp
        first | exact rfl | exact ⟨rfl, hW⟩
       simp only [Act.put, List.setIfInBounds_toArray, List.set_cons_succ, List.set_cons_zero]
       apply Chain.val
       ·rfl
       ·intro W hW
        obtain ⟨y0, y1, y2, y3, y4, y5, y6, y7, y8, y9, ya⟩ := HF.out W hW
        go_simp
        exact (HFI.out W hW).mono fun e w' ⟨he, hb⟩ => ⟨he, below_then hW (hW.size) hb⟩
       simp only [Act.put, List.setIfInBounds_toArray, List.set_cons_succ, List.set_cons_zero]
       apply Chain.val
       ·rfl
       ·intro W hW
        obtain ⟨y0, y1, y2, y3, y4, y5, y6, y7, y8, y9, ya⟩ := HF.out W hW
        go_simp
        first | exact rfl | exact ⟨rfl, hW⟩
       simp only [Act.put, List.setIfInBounds_toArray, List.set_cons_succ, List.set_cons_zero]
       refine Chain.nil ?_
       intro W hW
       have HBW := Aside0.mk hW
       clear hW hd hd2
       have HOW : Aside0 ((Kd.int .i64).R 3 W wx.heap.size (fun _ => True) u4 (ints (UP i))) := ⟨Kd.R_below HO4.out HBW.out⟩
       have HBX : Aside0 (Below wx.heap.size wx W) := ⟨below_then HB4.out HB4.out.size HBW.out⟩
       have HUL : Aside0 ((UP i).length ≤ 64) := ⟨by rw [HUP.out]; exact Nat.le_trans (upTo_length _ _ _ _ _ _) (by omega)⟩
       go_wp2_with (first | ((with_reducible refine gate_builtin (b := .append) (xs := #[.tmp 37, .tmp 39]) rfl ?_); at_builtin; refine Kd.R_append (Kd.int .i64) (w0 := wx) wx.heap.size rfl (.tmp 37) (.tmp 39) 37 3 (.int .i64 0) 8 rfl Tryz.underlying37 info3 rfl (by decide) (by omega) u4 (ints (UP i)) (i : Int) [.int .i64 i] (fun _ => True) (fun _ => False) rfl rfl ?aP (fun _ hk => hk.elim) ?aF ?aO ?aB ?aS ?aL ?_; (case aP => exact rfl); (case aB => exact HBX.out); (case aF => exact (fun _ _ => trivial)); (case aO => exact HOW.out); (case aS => exact HBX.out.size); (case aL => have := HUL.out; simp only [ints, List.length_map]; omega); intro v254 w8 ho hb hg hat; have HBN := Aside0.mk hb; have HON := Aside0.mk ho; clear ho hb hg hat))
       go_roundw
       case rel => exact ⟨i + 1, rfl, by omega, ⟨by have e := HON.out; rw [HUPS.out, show ints (UP i ++ [i]) = ints (UP i) ++ [(i : Int)] by simp [ints]]; exact e⟩, HBN⟩
       case measure => simp only [intOf]; omega
      | false =>
       rw [hfire] at HFI HRP
       have HUPS : Aside0 (UP (i + 1) = UP i) := ⟨by rw [HUP.out, upTo_succ, HRP.out]; simp⟩
       clear hfire hs
       refine wp_region_steady (by kernel_rfl) (Below w4.heap.size w4) (Below.refl _ w4).drew (by decide +kernel) ?_
       apply Chain.val
       ·rfl
       ·intro W hW
        obtain ⟨y0, y1, y2, y3, y4, y5, y6, y7, y8, y9, ya⟩ := HF.out W hW
        go_simp
        first | exact rfl | exact ⟨rfl, hW⟩
       simp only [Act.put, List.setIfInBounds_toArray, List.set_cons_succ, List.set_cons_zero]
       apply Chain.val
       ·rfl
       ·intro W hW
        obtain ⟨y0, y1, y2, y3, y4, y5, y6, y7, y8, y9, ya⟩ := HF.out W hW
        go_simp
        first | exact rfl | exact ⟨rfl, hW⟩
       simp only [Act.put, List.setIfInBounds_toArray, List.set_cons_succ, List.set_cons_zero]
       apply Chain.val
       ·rfl
       ·intro W hW
        obtain ⟨y0, y1, y2, y3, y4, y5, y6, y7, y8, y9, ya⟩ := HF.out W hW
        go_simp
        first | exact rfl | exact ⟨rfl, hW⟩
       simp only [Act.put, List.setIfInBounds_toArray, List.set_cons_succ, List.set_cons_zero]
       apply Chain.val
       ·rfl
       ·intro W hW
        obtain ⟨y0, y1, y2, y3, y4, y5, y6, y7, y8, y9, ya⟩ := HF.out W hW
        go_simp
        first | exact rfl | exact ⟨rfl, hW⟩
       simp only [Act.put, List.setIfInBounds_toArray, List.set_cons_succ, List.set_cons_zero]
       apply Chain.val
       ·rfl
       ·intro W hW
        obtain ⟨y0, y1, y2, y3, y4, y5, y6, y7, y8, y9, ya⟩ := HF.out W hW
        go_simp
        first | exact rfl | exact ⟨rfl, hW⟩
       simp only [Act.put, List.setIfInBounds_toArray, List.set_cons_succ, List.set_cons_zero]
       apply Chain.val
       ·rfl
       ·intro W hW
        obtain ⟨y0, y1, y2, y3, y4, y5, y6, y7, y8, y9, ya⟩ := HF.out W hW
        go_simp
        first | exact rfl | exact ⟨rfl, hW⟩
       simp only [Act.put, List.setIfInBounds_toArray, List.set_cons_succ, List.set_cons_zero]
       apply Chain.val
       ·rfl
       ·intro W hW
        obtain ⟨y0, y1, y2, y3, y4, y5, y6, y7, y8, y9, ya⟩ := HF.out W hW
        go_simp
        first | exact rfl | exact ⟨rfl, hW⟩
       simp only [Act.put, List.setIfInBounds_toArray, List.set_cons_succ, List.set_cons_zero]
       apply Chain.val
       ·rfl
       ·intro W hW
        obtain ⟨y0, y1, y2, y3, y4, y5, y6, y7, y8, y9, ya⟩ := HF.out W hW
        go_simp
        first | exact rfl | exact ⟨rfl, hW⟩
       simp only [Act.put, List.setIfInBounds_toArray, List.set_cons_succ, List.set_cons_zero]
       apply Chain.val
       ·rfl
       ·intro W hW
        obtain ⟨y0, y1, y2, y3, y4, y5, y6, y7, y8, y9, ya⟩ := HF.out W hW
        go_simp
        first | exact rfl | exact ⟨rfl, hW⟩
       simp only [Act.put, List.setIfInBounds_toArray, List.set_cons_succ, List.set_cons_zero]
       apply Chain.val
       ·rfl
       ·intro W hW
        obtain ⟨y0, y1, y2, y3, y4, y5, y6, y7, y8, y9, ya⟩ := HF.out W hW
        go_simp
        first | exact rfl | exact ⟨rfl, hW⟩
       simp only [Act.put, List.setIfInBounds_toArray, List.set_cons_succ, List.set_cons_zero]
       apply Chain.val
       ·rfl
       ·intro W hW
        obtain ⟨y0, y1, y2, y3, y4, y5, y6, y7, y8, y9, ya⟩ := HF.out W hW
        go_simp
        first | exact rfl | exact ⟨rfl, hW⟩
       simp only [Act.put, List.setIfInBounds_toArray, List.set_cons_succ, List.set_cons_zero]
       apply Chain.val
       ·rfl
       ·intro W hW
        obtain ⟨y0, y1, y2, y3, y4, y5, y6, y7, y8, y9, ya⟩ := HF.out W hW
        go_simp
        first | exact rfl | exact ⟨rfl, hW⟩
       simp only [Act.put, List.setIfInBounds_toArray, List.set_cons_succ, List.set_cons_zero]
       apply Chain.val
       ·rfl
       ·intro W hW
        obtain ⟨y0, y1, y2, y3, y4, y5, y6, y7, y8, y9, ya⟩ := HF.out W hW
        go_simp
        first | exact rfl | exact ⟨rfl, hW⟩
       simp only [Act.put, List.setIfInBounds_toArray, List.set_cons_succ, List.set_cons_zero]
       apply Chain.val
       ·rfl
       ·intro W hW
        obtain ⟨y0, y1, y2, y3, y4, y5, y6, y7, y8, y9, ya⟩ := HF.out W hW
        go_simp
        first | exact rfl | exact ⟨rfl, hW⟩
       simp only [Act.put, List.setIfInBounds_toArray, List.set_cons_succ, List.set_cons_zero]
       apply Chain.val
       ·rfl
       ·intro W hW
        obtain ⟨y0, y1, y2, y3, y4, y5, y6, y7, y8, y9, ya⟩ := HF.out W hW
        go_simp
        first | exact rfl | exact ⟨rfl, hW⟩
       simp only [Act.put, List.setIfInBounds_toArray, List.set_cons_succ, List.set_cons_zero]
       apply Chain.val
       ·rfl
       ·intro W hW
        obtain ⟨y0, y1, y2, y3, y4, y5, y6, y7, y8, y9, ya⟩ := HF.out W hW
        go_simp
        exact (HFI.out W hW).mono fun e w' ⟨he, hb⟩ => ⟨he, below_then hW (hW.size) hb⟩
       simp only [Act.put, List.setIfInBounds_toArray, List.set_cons_succ, List.set_cons_zero]
       apply Chain.val
       ·rfl
       ·intro W hW
        obtain ⟨y0, y1, y2, y3, y4, y5, y6, y7, y8, y9, ya⟩ := HF.out W hW
        go_simp
        first | exact rfl | exact ⟨rfl, hW⟩
       simp only [Act.put, List.setIfInBounds_toArray, List.set_cons_succ, List.set_cons_zero]
       refine Chain.nil ?_
       intro W hW
       have HBW := Aside0.mk hW
       clear hW hd hd2
       have HOW : Aside0 ((Kd.int .i64).R 3 W wx.heap.size (fun _ => True) u4 (ints (UP i))) := ⟨Kd.R_below HO4.out HBW.out⟩
       have HBX : Aside0 (Below wx.heap.size wx W) := ⟨below_then HB4.out HB4.out.size HBW.out⟩
       go_wp2
       go_roundw
       case rel => exact ⟨i + 1, rfl, by omega, ⟨by rw [HUPS.out]; exact HOW.out⟩, HBX⟩
       case measure => simp only [intOf]; omega
     ·have hd : decide (((Prot.get m x.f5 : Nat) : Int) = ((s : Nat) : Int)) = false := decide_eq_false (by omega)
      have hd2 : (((Prot.get m x.f5 : Nat) : Int) == ((s : Nat) : Int)) = false := beq_eq_false_iff_ne.2 (by omega)
      have HS := Aside0.mk hs
      have HUPS : Aside0 (UP (i + 1) = UP i) := ⟨by rw [HUP.out, upTo_succ, HRP.out]; simp [hs]⟩
      clear hs
      refine wp_region_steady (by kernel_rfl) (Below w4.heap.size w4) (Below.refl _ w4).drew (by decide +kernel) ?_
      apply Chain.val
      ·rfl
      ·intro W hW
       obtain ⟨y0, y1, y2, y3, y4, y5, y6, y7, y8, y9, ya⟩ := HF.out W hW
       go_simp
       first | exact rfl | exact ⟨rfl, hW⟩
      simp only [Act.put, List.setIfInBounds_toArray, List.set_cons_succ, List.set_cons_zero]
      apply Chain.val
      ·rfl
      ·intro W hW
       obtain ⟨y0, y1, y2, y3, y4, y5, y6, y7, y8, y9, ya⟩ := HF.out W hW
       go_simp
       first | exact rfl | exact ⟨rfl, hW⟩
      simp only [Act.put, List.setIfInBounds_toArray, List.set_cons_succ, List.set_cons_zero]
      apply Chain.val
      ·rfl
      ·intro W hW
       obtain ⟨y0, y1, y2, y3, y4, y5, y6, y7, y8, y9, ya⟩ := HF.out W hW
       go_simp
       first | exact rfl | exact ⟨rfl, hW⟩
      simp only [Act.put, List.setIfInBounds_toArray, List.set_cons_succ, List.set_cons_zero]
      apply Chain.val
      ·rfl
      ·intro W hW
       obtain ⟨y0, y1, y2, y3, y4, y5, y6, y7, y8, y9, ya⟩ := HF.out W hW
       go_simp
       first | exact rfl | exact ⟨rfl, hW⟩
      simp only [Act.put, List.setIfInBounds_toArray, List.set_cons_succ, List.set_cons_zero]
      apply Chain.val
      ·rfl
      ·intro W hW
       obtain ⟨y0, y1, y2, y3, y4, y5, y6, y7, y8, y9, ya⟩ := HF.out W hW
       go_simp
       first | exact rfl | exact ⟨rfl, hW⟩
      simp only [Act.put, List.setIfInBounds_toArray, List.set_cons_succ, List.set_cons_zero]
      apply Chain.val
      ·rfl
      ·intro W hW
       obtain ⟨y0, y1, y2, y3, y4, y5, y6, y7, y8, y9, ya⟩ := HF.out W hW
       go_simp
       first | exact rfl | exact ⟨rfl, hW⟩
      simp only [Act.put, List.setIfInBounds_toArray, List.set_cons_succ, List.set_cons_zero]
      apply Chain.val
      ·rfl
      ·intro W hW
       obtain ⟨y0, y1, y2, y3, y4, y5, y6, y7, y8, y9, ya⟩ := HF.out W hW
       go_simp
       first | exact rfl | exact ⟨rfl, hW⟩
      simp only [Act.put, List.setIfInBounds_toArray, List.set_cons_succ, List.set_cons_zero]
      apply Chain.val
      ·rfl
      ·intro W hW
       obtain ⟨y0, y1, y2, y3, y4, y5, y6, y7, y8, y9, ya⟩ := HF.out W hW
       go_simp
       first | exact rfl | exact ⟨rfl, hW⟩
      simp only [Act.put, List.setIfInBounds_toArray, List.set_cons_succ, List.set_cons_zero]
      apply Chain.val
      ·rfl
      ·intro W hW
       obtain ⟨y0, y1, y2, y3, y4, y5, y6, y7, y8, y9, ya⟩ := HF.out W hW
       go_simp
       first | exact rfl | exact ⟨rfl, hW⟩
      simp only [Act.put, List.setIfInBounds_toArray, List.set_cons_succ, List.set_cons_zero]
      apply Chain.val
      ·rfl
      ·intro W hW
       obtain ⟨y0, y1, y2, y3, y4, y5, y6, y7, y8, y9, ya⟩ := HF.out W hW
       go_simp
       first | exact rfl | exact ⟨rfl, hW⟩
      simp only [Act.put, List.setIfInBounds_toArray, List.set_cons_succ, List.set_cons_zero]
      apply Chain.val
      ·rfl
      ·intro W hW
       obtain ⟨y0, y1, y2, y3, y4, y5, y6, y7, y8, y9, ya⟩ := HF.out W hW
       go_simp
       first | exact rfl | exact ⟨rfl, hW⟩
      simp only [Act.put, List.setIfInBounds_toArray, List.set_cons_succ, List.set_cons_zero]
      apply Chain.val
      ·rfl
      ·intro W hW
       obtain ⟨y0, y1, y2, y3, y4, y5, y6, y7, y8, y9, ya⟩ := HF.out W hW
       go_simp
       first | exact rfl | exact ⟨rfl, hW⟩
      simp only [Act.put, List.setIfInBounds_toArray, List.set_cons_succ, List.set_cons_zero]
      apply Chain.val
      ·rfl
      ·intro W hW
       obtain ⟨y0, y1, y2, y3, y4, y5, y6, y7, y8, y9, ya⟩ := HF.out W hW
       go_simp
       first | exact rfl | exact ⟨rfl, hW⟩
      simp only [Act.put, List.setIfInBounds_toArray, List.set_cons_succ, List.set_cons_zero]
      refine Chain.skip (by rfl) ?_
      simp only [Act.put, List.setIfInBounds_toArray, List.set_cons_succ, List.set_cons_zero]
      refine Chain.skip (by rfl) ?_
      simp only [Act.put, List.setIfInBounds_toArray, List.set_cons_succ, List.set_cons_zero]
      refine Chain.skip (by rfl) ?_
      simp only [Act.put, List.setIfInBounds_toArray, List.set_cons_succ, List.set_cons_zero]
      apply Chain.val
      ·rfl
      ·intro W hW
       obtain ⟨y0, y1, y2, y3, y4, y5, y6, y7, y8, y9, ya⟩ := HF.out W hW
       go_simp
       first | exact rfl | exact ⟨rfl, hW⟩
      simp only [Act.put, List.setIfInBounds_toArray, List.set_cons_succ, List.set_cons_zero]
      refine Chain.nil ?_
      intro W hW
      have HBW := Aside0.mk hW
      clear hW hd hd2
      have HOW : Aside0 ((Kd.int .i64).R 3 W wx.heap.size (fun _ => True) u4 (ints (UP i))) := ⟨Kd.R_below HO4.out HBW.out⟩
      have HBX : Aside0 (Below wx.heap.size wx W) := ⟨below_then HB4.out HB4.out.size HBW.out⟩
      go_wp2
      go_roundw
      case rel => exact ⟨i + 1, rfl, by omega, ⟨by rw [HUPS.out]; exact HOW.out⟩, HBX⟩
      case measure => simp only [intOf]; omega
    ·obtain rfl : i = l0.length := by omega
     obtain ⟨A, c, rfl, hcap, hrd⟩ := Kd.R_reads HO.out
     have hbs : ∀ a : Addr, A = some a → wx.heap.size ≤ a.block := fun a e => by
      subst e
      exact ((Kd.R_bound HO.out).1 a.block rfl).2.1
     have HBS := Aside0.mk hbs
     clear hbs
     have hRL : UP l0.length = roundL (Prot.get m) ed s HELD (l0.map toC) := by rw [HUP.out]; unfold upTo roundL; rw [List.length_map]
     have HRL := Aside0.mk hRL
     have HIW := Aside0.mk (HM.out _ _ _ HI2.out HB.out)
     have HRD := Aside0.mk hrd
     clear hRL hrd
     rename ∀ (a : Act) (w : World), Code.wp Tryz.prog (Code.seq (Code.region 7 _ _) _) _ a w → _ => hk7
     have HK7 := Aside0.mk hk7
     clear hk7
     go_wp2_with fail
     rw [HRL.out] at HRD
     have hml : mkLevel (Prot.get m) ed (l0.map toC) facts s (k1 + 1) o2 = some o' := HK2.out
     rw [HRL.out]
     have hrl2 : roundL (Prot.get m) ed s HELD (l0.map toC) = roundL (Prot.get m) ed s (heldOf (l0.map toC) facts o2) (l0.map toC) := by rw [HHELD.out]
     have hcap2 : (ints (roundL (Prot.get m) ed s HELD (l0.map toC))).length ≤ c := by rw [← HRL.out]; exact hcap
     clear HRL hcap
     generalize hl : roundL (Prot.get m) ed s HELD (l0.map toC) = l at hrl2 HRD hcap2 ⊢
     by_cases hnil : l = []
     ·have hend : o' = o2 := by
       simp only [mkLevel, ← hrl2, hnil, if_true] at hml
       exact (Option.some.inj hml).symm
      have HE := Aside0.mk hend
      clear hend hml hl hrl2
      subst hnil
      refine HK7.out _ _ ?_
      go_wp2
      exact bodyPost_ret (results_none rfl _ _ _) rfl ⟨rfl, by rw [HE.out]; exact HIW.out⟩
     ·have hnext : mkLevel (Prot.get m) ed (l0.map toC) facts s k1 (addL (l0.map toC) facts l o2) = some o' := by
       simp only [mkLevel, ← hrl2] at hml
       rwa [if_neg hnil] at hml
      have HN := Aside0.mk hnext
      obtain ⟨fn, tmps, assign, body, hy, hround⟩ := HY.out o2 wx wr A c l HI2.out HB.out HBS.out hrl2.symm hnil HRD.out hcap2
      have hlen0 : (ints l).length ≠ 0 := by
       unfold ints; rw [List.length_map]; exact fun h => hnil (List.length_eq_zero_iff.1 h)
      have hd : decide ((((ints l).length : Nat) : Int) = 0) = false := decide_eq_false (by omega)
      have hd2 : ((((ints l).length : Nat) : Int) == 0) = false := beq_eq_false_iff_ne.2 (by omega)
      have HRO := Aside0.mk hround
      clear hml hl hrl2 hnext hround hlen0 hnil
      refine HK7.out _ _ ((wpIn_wide (n := 1)).1 ?_)
      gi_wp2_with fail
      refine (HRO.out 0).mono ?_
      rintro e w2 ⟨rfl, hi2⟩
      have HI2' := Aside0.mk hi2
      clear hi2
      gi_wp2_with fail
      go_roundg k1
      case rel => exact ⟨addL (l0.map toC) facts l o2, HN, HI2'⟩
      case measure => omega
end
end Go.Proofs.YtlhkeohcickiaaaGreatDoor.E
namespace Go.Proofs.YtlhkeohcickiaaaGreatDoor.Prot
variable {α : Type} [DecidableEq α] [Inhabited α]
structure Model (ed : Int) (book : List (Cl α)) (facts : List α) (order : List Nat) : Prop where
 lt : ∀ i ∈ order, i < book.length
 fresh : ∀ i ∈ order, (at_ book i).thn ∉ facts
 nodup : (thens book order).Nodup
 came : ∀ pre i post, order = pre ++ i :: post → standsB ed (at_ book i) = true ∧ (∀ f ∈ (at_ book i).ifs, f ∈ heldOf book facts pre) ∧ ∀ f ∈ (at_ book i).unl, f ∉ heldOf book facts order
 closed : ∀ c ∈ book, firesB ed (heldOf book facts order) c = true → c.thn ∈ heldOf book facts order
theorem mem_at {book : List (Cl α)} {c : Cl α} (h : c ∈ book) : ∃ i, i < book.length ∧ at_ book i = c := by
 obtain ⟨i, hi, e⟩ := List.getElem_of_mem h
 exact ⟨i, hi, by unfold at_; rw [List.getD_eq_getElem?_getD, List.getElem?_eq_getElem hi]; simpa using e⟩
theorem at_mem {book : List (Cl α)} {i : Nat} (h : i < book.length) : at_ book i ∈ book := by
 unfold at_; rw [List.getD_eq_getElem?_getD, List.getElem?_eq_getElem h]; simp
theorem Good.model {lv : α → Nat} {ed : Int} {book : List (Cl α)} {facts : List α} {order : List Nat} (hfit : Fits lv book) (h : Good lv ed book facts order) (hs : ∀ t, Shut lv ed book facts t order) : Model ed book facts order := by
 refine ⟨h.lt, fun i hi => h.fresh _ (by unfold thens; exact List.mem_map.2 ⟨i, hi, rfl⟩), h.nodup, fun pre i post e => ?_, fun c hc hf => ?_⟩
 ·have hf := firesB_iff.1 (h.came pre i post e)
  refine ⟨hf.1, hf.2.1, fun f hu hx => ?_⟩
  rw [e, heldOf_append] at hx
  rcases List.mem_append.1 hx with hx | hx
  ·exact hf.2.2 f hu hx
  ·have hi : i < book.length := h.lt i (by rw [e]; simp)
   have h1 := (hfit _ (at_mem hi)).2 f hu
   simp only [thens, List.map_cons, List.mem_cons, List.mem_map] at hx
   rcases hx with rfl | ⟨j, hj, rfl⟩
   ·omega
   ·have := h.lev pre i post e j hj
    omega
 ·obtain ⟨i, hi, rfl⟩ := mem_at hc
  apply Classical.byContradiction
  intro hn
  have h1 := hs (lv (at_ book i).thn)
  unfold Shut at h1
  have : i ∈ roundL lv ed (lv (at_ book i).thn) (heldOf book facts order) book := mem_roundL.2 ⟨hi, rfl, hf, hn⟩
  rw [h1] at this
  cases this
theorem thn_inj {book : List (Cl α)} {order : List Nat} (h : (thens book order).Nodup) {i j : Nat} (hi : i ∈ order) (hj : j ∈ order) (e : (at_ book i).thn = (at_ book j).thn) : i = j := by
 induction order with
 | nil => cases hi
 | cons a l ih =>
  simp only [thens, List.map_cons, List.nodup_cons, List.mem_map, not_exists, not_and] at h
  rcases List.mem_cons.1 hi with hi' | hi' <;> rcases List.mem_cons.1 hj with hj' | hj'
  ·rw [hi', hj']
  ·subst hi'; exact absurd e.symm (h.1 j hj')
  ·subst hj'; exact absurd e (h.1 i hi')
  ·exact ih h.2 hi' hj'
inductive Reach (book : List (Cl α)) (order : List Nat) (claim : α) : Nat → Prop
 | top {i : Nat} : i ∈ order → (at_ book i).thn = claim → Reach book order claim i
 | step {i j : Nat} : Reach book order claim j → i ∈ order → (at_ book i).thn ∈ (at_ book j).ifs → Reach book order claim i
theorem Reach.mem {book : List (Cl α)} {order : List Nat} {claim : α} {i : Nat} (h : Reach book order claim i) : i ∈ order := by
 cases h <;> assumption
open Classical in
noncomputable def derive (book : List (Cl α)) (order : List Nat) (claim : α) : List Nat := order.filter fun i => decide (Reach book order claim i)
def whyR (book : List (Cl α)) (claim : α) : List Nat → List α × List Nat
 | [] => ([claim], [])
 | i :: rest =>
  let r := whyR book claim rest
  if r.1.contains (at_ book i).thn then (r.1 ++ (at_ book i).ifs, i :: r.2) else r
theorem whyR_spec {ed : Int} {book : List (Cl α)} {facts : List α} {order : List Nat} (h : Model ed book facts order) (claim : α) :
  ∀ (suf pre : List Nat), order = pre ++ suf → (whyR book claim suf).2 = (open Classical in suf.filter fun i => decide (Reach book order claim i)) ∧
   ∀ x, x ∈ (whyR book claim suf).1 ↔ x = claim ∨ ∃ j ∈ suf, Reach book order claim j ∧ x ∈ (at_ book j).ifs := by
 intro suf
 induction suf with
 | nil => intro pre _; simp [whyR]
 | cons i suf ih =>
  intro pre e
  obtain ⟨h1, h2⟩ := ih (pre ++ [i]) (by rw [e]; simp)
  have hi : i ∈ order := by rw [e]; simp
  have key : (at_ book i).thn ∈ (whyR book claim suf).1 ↔ Reach book order claim i := by
   rw [h2]
   constructor
   ·rintro (hx | ⟨j, hj, hr, hx⟩)
    ·exact .top hi hx
    ·exact .step hr hi hx
   ·intro hr
    cases hr with
    | top _ hx => exact .inl hx
    | @step _ j hj _ hx =>
     refine .inr ⟨j, ?_, hj, hx⟩
     have hjo := hj.mem
     obtain ⟨a, b, ab⟩ := List.append_of_mem hjo
     have hc := (h.came a j b ab).2.1 _ hx
     rw [mem_heldOf] at hc
     rcases hc with hc | ⟨i', hi', e'⟩
     ·exact absurd hc (h.fresh i hi)
     ·have hii : i' = i := thn_inj h.nodup (by rw [ab]; simp [hi']) hi e'
      subst hii
      rw [e] at ab
      have hnd : (thens book (pre ++ i' :: suf)).Nodup := by rw [← e]; exact h.nodup
      rcases List.append_eq_append_iff.1 ab with ⟨az, p1, p2⟩ | ⟨bs, p1, p2⟩
      ·
       cases az with
       | nil =>
        simp at p1
        subst p1
        exfalso
        rw [thens_append, List.nodup_append] at hnd
        exact hnd.2.2 _ (by unfold thens; exact List.mem_map.2 ⟨i', hi', rfl⟩) _ (by simp [thens]) rfl
       | cons x az =>
        simp at p2
        rw [p2.2]; simp
      ·
       exfalso
       rw [p1, thens_append, thens_append, List.append_assoc, List.nodup_append] at hnd
       exact hnd.2.2 _ (by unfold thens; exact List.mem_map.2 ⟨i', hi', rfl⟩) _ (by simp [thens]) rfl
  unfold whyR
  by_cases hr : Reach book order claim i
  ·have hc : (whyR book claim suf).1.contains (at_ book i).thn = true := by simpa using key.2 hr
   simp only [hc, if_true]
   refine ⟨by rw [h1]; simp [hr], fun x => ?_⟩
   rw [List.mem_append, h2]
   constructor
   ·rintro ((rfl | ⟨j, hj, hr', hx⟩) | hx)
    ·exact .inl rfl
    ·exact .inr ⟨j, by simp [hj], hr', hx⟩
    ·exact .inr ⟨i, by simp, hr, hx⟩
   ·rintro (rfl | ⟨j, hj, hr', hx⟩)
    ·exact .inl (.inl rfl)
    ·rcases List.mem_cons.1 hj with rfl | hj
     ·exact .inr hx
     ·exact .inl (.inr ⟨j, hj, hr', hx⟩)
  ·have hc : (whyR book claim suf).1.contains (at_ book i).thn = false := by
    rw [Bool.eq_false_iff]; intro hh; exact hr (key.1 (by simpa using hh))
   simp only [hc]
   refine ⟨by rw [if_neg (by simp), h1]; simp [hr], fun x => ?_⟩
   rw [if_neg (by simp), h2]
   constructor
   ·rintro (rfl | ⟨j, hj, hr', hx⟩)
    ·exact .inl rfl
    ·exact .inr ⟨j, by simp [hj], hr', hx⟩
   ·rintro (rfl | ⟨j, hj, hr', hx⟩)
    ·exact .inl rfl
    ·rcases List.mem_cons.1 hj with rfl | hj
     ·exact absurd hr' hr
     ·exact .inr ⟨j, hj, hr', hx⟩
theorem whyR_derive {ed : Int} {book : List (Cl α)} {facts : List α} {order : List Nat} (h : Model ed book facts order) (claim : α) : (whyR book claim order).2 = derive book order claim :=
 (whyR_spec h claim order [] rfl).1
def reasonOf (book : List (Cl α)) (order : List Nat) (f : α) : Option Nat := order.find? fun i => decide ((at_ book i).thn = f)
def wantF (book : List (Cl α)) (order : List Nat) : Nat → α → List Nat → Option (List Nat)
 | 0, _, _ => none
 | k + 1, f, W =>
  match reasonOf book order f with
  | none => some W
  | some i => if W.contains i then some W else (at_ book i).ifs.foldlM (fun W f => wantF book order k f W) (W ++ [i])
theorem reasonOf_some {book : List (Cl α)} {order : List Nat} {f : α} {i : Nat} (h : reasonOf book order f = some i) : i ∈ order ∧ (at_ book i).thn = f := by
 unfold reasonOf at h
 exact ⟨List.mem_of_find?_eq_some h, by simpa using List.find?_some h⟩
theorem reasonOf_of {book : List (Cl α)} {order : List Nat} (hn : (thens book order).Nodup) {i : Nat} (hi : i ∈ order) : reasonOf book order (at_ book i).thn = some i := by
 cases h : reasonOf book order (at_ book i).thn with
 | none =>
  unfold reasonOf at h
  rw [List.find?_eq_none] at h
  exact absurd (by simp) (h i hi)
 | some j =>
  obtain ⟨h1, h2⟩ := reasonOf_some h
  rw [thn_inj hn h1 hi h2]
def free (order W : List Nat) : Nat := (order.filter fun i => !W.contains i).length
theorem free_mono {order W W' : List Nat} (h : ∀ i ∈ W, i ∈ W') : free order W' ≤ free order W := by
 unfold free
 refine filter_length_mono fun v hv => ?_
 simp only [Bool.not_eq_true', List.contains_eq_mem, decide_eq_false_iff_not] at hv ⊢
 exact fun hx => hv (h v hx)
theorem free_snoc {order W : List Nat} {i : Nat} (hi : i ∈ order) (hw : i ∉ W) : free order (W ++ [i]) < free order W := by
 unfold free
 refine filter_length_lt (a := i) (fun v hv => ?_) hi ?_ ?_
 ·simp only [Bool.not_eq_true', List.contains_eq_mem, decide_eq_false_iff_not, List.mem_append, not_or] at hv ⊢
  exact hv.1
 ·simp
 ·simpa using hw
structure Found (book : List (Cl α)) (order : List Nat) (W W' : List Nat) (P : Nat → Prop) : Prop where
 sub : ∀ i ∈ W, i ∈ W'
 reach : ∀ i ∈ W', i ∉ W → P i
 shut : ∀ i ∈ W', i ∉ W → ∀ g ∈ (at_ book i).ifs, ∀ j, reasonOf book order g = some j → j ∈ W'
theorem Found.refl (book : List (Cl α)) (order W : List Nat) (P : Nat → Prop) : Found book order W W P := ⟨fun _ h => h, fun i h h' => absurd h h', fun i h h' => absurd h h'⟩
theorem Found.trans {book : List (Cl α)} {order a b c : List Nat} {P : Nat → Prop} (h : Found book order a b P) (k : Found book order b c P) : Found book order a c P :=
 ⟨fun i hi => k.sub i (h.sub i hi), fun i hi hn => by
  by_cases hb : i ∈ b
  ·exact h.reach i hb hn
  ·exact k.reach i hi hb, fun i hi hn g hg j hj => by
  by_cases hb : i ∈ b
  ·exact k.sub j (h.shut i hb hn g hg j hj)
  ·exact k.shut i hi hb g hg j hj⟩
set_option linter.unusedVariables false in
theorem wantF_spec {book : List (Cl α)} {order : List Nat} {P : Nat → Prop} (hP : ∀ i, P i → ∀ g ∈ (at_ book i).ifs, ∀ j, reasonOf book order g = some j → P j) :
  ∀ (k : Nat) (f : α) (W : List Nat), free order W < k → (∀ i, reasonOf book order f = some i → P i) →
  ∃ W', wantF book order k f W = some W' ∧ Found book order W W' P ∧ ∀ i, reasonOf book order f = some i → i ∈ W' := by
 intro k
 induction k with
 | zero => intro f W h; omega
 | succ k ih =>
  intro f W hk hf
  unfold wantF
  cases hr : reasonOf book order f with
  | none => exact ⟨W, rfl, Found.refl .., fun i h => by cases h⟩
  | some i =>
   dsimp only
   by_cases hc : W.contains i = true
   ·rw [if_pos hc]
    exact ⟨W, rfl, Found.refl .., fun j h => by injection h with h; subst h; simpa using hc⟩
   ·rw [if_neg hc]
    have hiW : i ∉ W := by simpa using hc
    have hio := (reasonOf_some hr).1
    have hPi := hf i hr
    have hfree := free_snoc hio hiW
    have loop : ∀ (l : List α) (V : List Nat), (∀ g ∈ l, g ∈ (at_ book i).ifs) → (∀ j ∈ W ++ [i], j ∈ V) →
      ∃ V', l.foldlM (fun W f => wantF book order k f W) V = some V' ∧ Found book order V V' P ∧ ∀ g ∈ l, ∀ j, reasonOf book order g = some j → j ∈ V' := by
     intro l
     induction l with
     | nil => intro V _ _; exact ⟨V, rfl, Found.refl .., by simp⟩
     | cons g l ihl =>
      intro V hl hV
      have hfV : free order V < k := by have := free_mono (order := order) hV; omega
      obtain ⟨V1, e1, f1, g1⟩ := ih g V hfV (fun j hj => hP i hPi g (hl g (by simp)) j hj)
      obtain ⟨V2, e2, f2, g2⟩ := ihl V1 (fun x hx => hl x (by simp [hx])) (fun j hj => f1.sub j (hV j hj))
      refine ⟨V2, ?_, f1.trans f2, ?_⟩
      ·rw [List.foldlM_cons, e1]; exact e2
      ·intro x hx j hj
       rcases List.mem_cons.1 hx with rfl | hx
       ·exact f2.sub j (g1 j hj)
       ·exact g2 x hx j hj
    obtain ⟨V', e, fd, hall⟩ := loop (at_ book i).ifs (W ++ [i]) (fun g hg => hg) (fun j hj => hj)
    refine ⟨V', e, ⟨fun j hj => fd.sub j (by simp [hj]), fun j hj hn => ?_, fun j hj hn g hg m hm => ?_⟩, fun j h => by injection h with h; subst h; exact fd.sub i (by simp)⟩
    ·by_cases hji : j = i
     ·subst hji; exact hPi
     ·exact fd.reach j hj (by simp [hn, hji])
    ·by_cases hji : j = i
     ·subst hji; exact hall g hg m hm
     ·exact fd.shut j hj (by simp [hn, hji]) g hg m hm
theorem wantF_derive {book : List (Cl α)} {order : List Nat} (hn : (thens book order).Nodup) (claim : α) (k : Nat) (hk : order.length < k) :
  ∃ W, wantF book order k claim [] = some W ∧ order.filter (fun i => W.contains i) = derive book order claim := by
 have hfree : free order [] < k := by
  unfold free
  have := List.length_filter_le (fun i => !([] : List Nat).contains i) order
  omega
 obtain ⟨W, e, fd, htop⟩ := wantF_spec (P := Reach book order claim) (fun i hi g hg j hj => by
  obtain ⟨h1, h2⟩ := reasonOf_some hj
  exact .step hi h1 (by rw [h2]; exact hg)) k claim [] hfree (fun i hi => by
  obtain ⟨h1, h2⟩ := reasonOf_some hi
  exact .top h1 h2)
 refine ⟨W, e, ?_⟩
 unfold derive
 refine List.filter_congr fun i hi => ?_
 have : i ∈ W ↔ Reach book order claim i := by
  refine ⟨fun h => fd.reach i h (by simp), fun h => ?_⟩
  clear hi
  induction h with
  | top hi ht => exact htop _ (by rw [← ht]; exact reasonOf_of hn hi)
  | @step i j _ hi ht ih => exact fd.shut j ih (by simp) _ ht i (reasonOf_of hn hi)
 by_cases hw : i ∈ W
 ·simp [hw, this.1 hw]
 ·have hno : ¬ Reach book order claim i := fun h => hw (this.2 h)
  simp [hw, hno]
def proveL (ed : Int) (book : List (Cl α)) (held : List α) : List Nat → List α → Nat → Option Nat × List α
 | [], known, _ => (none, known)
 | i :: l, known, k =>
  if standsB ed (at_ book i) && ((at_ book i).ifs.all (known.contains ·) && !((at_ book i).unl.any (held.contains ·))) then proveL ed book held l (known ++ [(at_ book i).thn]) (k + 1)
  else (some k, known)
def stepOk (ed : Int) (book : List (Cl α)) (held known : List α) (i : Nat) : Bool := standsB ed (at_ book i) && ((at_ book i).ifs.all (known.contains ·) && !((at_ book i).unl.any (held.contains ·)))
theorem proveL_cons (ed : Int) (book : List (Cl α)) (held : List α) (i : Nat) (l : List Nat) (known : List α) (k : Nat) :
  proveL ed book held (i :: l) known k = if stepOk ed book held known i = true then proveL ed book held l (known ++ [(at_ book i).thn]) (k + 1) else (some k, known) := rfl
end Go.Proofs.YtlhkeohcickiaaaGreatDoor.Prot
namespace Go.Proofs.YtlhkeohcickiaaaGreatDoor.E
open Go.RowKit Go.Proofs.YtlhkeohcickiaaaGreatDoor.H Go.Proofs.YtlhkeohcickiaaaGreatDoorW.PrintWords Go.Proofs.YtlhkeohcickiaaaGreatDoorW.PrintLast Go.Proofs.YtlhkeohcickiaaaGreatDoorW.PrintMore
section
open Prot (heldOf roundL roundP addL addOne mkLevel mkLevels at_ firesB Good Fits)
def regOf (id : Nat) : Code → Option Code
 | .region i ops d => if i = id then some (.region i ops d) else none
 | .rangeFunc _ _ _ b => regOf id b
 | .seq a b => match regOf id a with | some c => some c | none => regOf id b
 | .cond _ a b => match regOf id a with | some c => some c | none => regOf id b
 | .block _ c => regOf id c
 | .loop c => regOf id c
 | .scope c => regOf id c
 | _ => none
structure Ent (wr : World) (h rr : Nat) (mh mr : List (ByteArray × Value)) (W : World) : Prop where
 size : W.heap.size = wr.heap.size
 os : W.os = wr.os
 tape : W.tape = wr.tape
 output : W.output = wr.output
 other : ∀ j, j ≠ h → j ≠ rr → W.heap[j]? = wr.heap[j]?
 held : H.MapAt H.encS W h mh
 reasons : H.MapAt H.encS W rr mr
section
variable {wr W : World} {h rr : Nat} {mh mr : List (ByteArray × Value)}
theorem Ent.setH (e : Ent wr h rr mh mr W) (hne : h ≠ rr) (m' : List (ByteArray × Value)) : Ent wr h rr m' mr (putMap H.encS W h m') :=
 ⟨by rw [size_putMap]; exact e.size, e.os, e.tape, e.output, fun j h1 h2 => by rw [putMap_heap_other _ h1]; exact e.other j h1 h2, e.held.put m', e.reasons.put_other (Ne.symm hne) m'⟩
theorem Ent.setR (e : Ent wr h rr mh mr W) (hne : h ≠ rr) (m' : List (ByteArray × Value)) : Ent wr h rr mh m' (putMap H.encS W rr m') :=
 ⟨by rw [size_putMap]; exact e.size, e.os, e.tape, e.output, fun j h1 h2 => by rw [putMap_heap_other _ h2]; exact e.other j h1 h2, e.held.put_other hne m', e.reasons.put m'⟩
theorem Ent.cell (e : Ent wr h rr mh mr W) {p : Addr} {v : Value} (h1 : p.block ≠ h) (h2 : p.block ≠ rr) (hc : wr.cell? p = some v) : W.cell? p = some v := by
 rw [← hc]
 unfold World.cell?
 rw [e.other _ h1 h2]
end
def hAt (H : List (ByteArray × Value)) (s : ByteArray) : Nat → List (ByteArray × Value)
 | 0 => H
 | 1 => entered H s (.bool false)
 | _ => mput H s (.bool true)
def rAt (R : List (ByteArray × Value)) (s : ByteArray) (i : Nat) : Nat → List (ByteArray × Value)
 | 0 => R
 | 1 => R
 | 2 => R
 | 3 => entered R s (.int .i64 0)
 | _ => mput R s (.int .i64 i)
def S13 (wr : World) (h rr : Nat) (H R : List (ByteArray × Value)) (s : ByteArray) (i t : Nat) (W : World) : Prop := Ent wr h rr (hAt H s t) (rAt R s i t) W
attribute [local go_sem] slk sget sput StRes_value StRes_skip
set_option maxHeartbeats 4000000 in
set_option maxRecDepth 100000 in
theorem enter_maps (RG : Code) (hRG : (Tryz.f52.body.bind (regOf 13)) = some RG) (F : Fence) (hfn : ∀ f, F.fn f) (nn : Nat) (ds : List Deferred) (Q : Exit → Act → World → Prop) (a : Act) (wr : World) (wb vb h rr i : Nat) (s : ByteArray) (H R : List (ByteArray × Value)) (l0 : Slots)
  (hl0 : (l0.all fun p => decide (p.1 < 64)) = true) (hf : Fr 92 ds ((7, .pointer (some ⟨vb, 0, none⟩)) :: (11, .int .i64 (i : Nat)) :: (12, .string s) :: l0) a)
  (c0 : wr.cell? ⟨vb, 0, none⟩ = some (.pointer (some ⟨wb, 0, none⟩))) (c2 : wr.cell? ⟨wb, 2, none⟩ = some (.map (some h))) (c4 : wr.cell? ⟨wb, 4, none⟩ = some (.map (some rr))) (hH : Go.Proofs.YtlhkeohcickiaaaGreatDoor.H.MapAt Go.Proofs.YtlhkeohcickiaaaGreatDoor.H.encS wr h H) (hR : Go.Proofs.YtlhkeohcickiaaaGreatDoor.H.MapAt Go.Proofs.YtlhkeohcickiaaaGreatDoor.H.encS wr rr R)
  (hne : h ≠ rr) (n1 : vb ≠ h) (n2 : vb ≠ rr) (n3 : wb ≠ h) (n4 : wb ≠ rr)
  (hQ : ∀ a' W, Fr 92 ds ((7, .pointer (some ⟨vb, 0, none⟩)) :: (11, .int .i64 (i : Nat)) :: (12, .string s) :: l0) a' → Ent wr h rr (mput H s (.bool true)) (mput R s (.int .i64 i)) W → Q .normal a' W) :
  RG.wpIn F nn Tryz.prog Q a wr := by
 simp only [Tryz.f52, Option.bind_some, regOf] at hRG
 simp only [reduceCtorEq, Nat.reduceEqDiff, if_false, if_true, ↓reduceIte] at hRG
 obtain rfl := (Option.some.inj hRG).symm
 clear hRG
 refine wpIn_region_KX hfn (by kernel_rfl) hf (S13 wr h rr H R s i) [11, 13, 14, 16] ⟨rfl, rfl, rfl, rfl, fun _ _ _ => rfl, hH, hR⟩ (by kernel_rfl) (by kernel_rfl) (by kernel_rfl) ?_
 have HQ := Aside0.mk hQ
 clear hQ
 apply ChainK.pure
 ·rfl
 ·rfl
 ·decide
 ·intro t ht W hW
  have c := Ent.cell hW n1 n2 c0
  go_simp
  first | exact rfl | exact ⟨rfl, hW⟩
 apply ChainK.pure
 ·rfl
 ·rfl
 ·decide
 ·intro t ht W hW
  go_simp
  first | exact rfl | exact ⟨rfl, hW⟩
 apply ChainK.pure
 ·rfl
 ·rfl
 ·decide
 ·intro t ht W hW
  go_simp
  first | exact rfl | exact ⟨rfl, hW⟩
 apply ChainK.pure
 ·rfl
 ·rfl
 ·decide
 ·intro t ht W hW
  have c := Ent.cell hW n3 n4 c2
  go_simp
  first | exact rfl | exact ⟨rfl, hW⟩
 apply ChainK.pure
 ·rfl
 ·rfl
 ·decide
 ·intro t ht W hW
  go_simp
  first | exact rfl | exact ⟨rfl, hW⟩
 apply ChainK.pure
 ·rfl
 ·rfl
 ·decide
 ·intro t ht W hW
  have c := Ent.cell hW n1 n2 c0
  go_simp
  first | exact rfl | exact ⟨rfl, hW⟩
 apply ChainK.pure
 ·rfl
 ·rfl
 ·decide
 ·intro t ht W hW
  go_simp
  first | exact rfl | exact ⟨rfl, hW⟩
 apply ChainK.pure
 ·rfl
 ·rfl
 ·decide
 ·intro t ht W hW
  go_simp
  first | exact rfl | exact ⟨rfl, hW⟩
 apply ChainK.pure
 ·rfl
 ·rfl
 ·decide
 ·intro t ht W hW
  have c := Ent.cell hW n3 n4 c4
  go_simp
  first | exact rfl | exact ⟨rfl, hW⟩
 apply ChainK.pure
 ·rfl
 ·rfl
 ·decide
 ·intro t ht W hW
  go_simp
  first | exact rfl | exact ⟨rfl, hW⟩
 apply ChainK.pure
 ·rfl
 ·rfl
 ·decide
 ·intro t ht W hW
  go_simp
  first | exact rfl | exact ⟨rfl, hW⟩
 apply ChainK.change 0
 ·rfl
 ·rfl
 ·rfl
 ·intro W hW
  have hh : Go.Proofs.YtlhkeohcickiaaaGreatDoor.H.MapAt Go.Proofs.YtlhkeohcickiaaaGreatDoor.H.encS W h H := hW.held
  have hm := run_mapEntry_at (P := Tryz.prog) keyS Tryz.underlying71 Tryz.underlying9 hh zero4 s
  simp only [Go.Proofs.YtlhkeohcickiaaaGreatDoor.H.encS] at hm
  go_simp
  exact ⟨rfl, hW.setH hne _⟩
 apply ChainK.pure
 ·rfl
 ·rfl
 ·decide
 ·intro t ht W hW
  go_simp
  first | exact rfl | exact ⟨rfl, hW⟩
 apply ChainK.change 1
 ·rfl
 ·rfl
 ·rfl
 ·intro W hW
  have hm := run_entryStore_entered (P := Tryz.prog) (T := 71) (x₀ := s) (z₀ := .bool false) hW.held (.bool true)
  go_simp
  exact ⟨rfl, hW.setH hne _⟩
 apply ChainK.change 2
 ·rfl
 ·rfl
 ·rfl
 ·intro W hW
  have hh : Go.Proofs.YtlhkeohcickiaaaGreatDoor.H.MapAt Go.Proofs.YtlhkeohcickiaaaGreatDoor.H.encS W rr R := hW.reasons
  have hm := run_mapEntry_at (P := Tryz.prog) keyS Tryz.underlying62 Tryz.underlying9 hh zero3 s
  simp only [Go.Proofs.YtlhkeohcickiaaaGreatDoor.H.encS] at hm
  go_simp
  exact ⟨rfl, hW.setR hne _⟩
 apply ChainK.pure
 ·rfl
 ·rfl
 ·decide
 ·intro t ht W hW
  go_simp
  first | exact rfl | exact ⟨rfl, hW⟩
 apply ChainK.change 3
 ·rfl
 ·rfl
 ·rfl
 ·intro W hW
  have hm := run_entryStore_entered (P := Tryz.prog) (T := 62) (x₀ := s) (z₀ := .int .i64 0) hW.reasons (.int .i64 (i : Nat))
  go_simp
  exact ⟨rfl, hW.setR hne _⟩
 refine fun a' w' hf' hS => HQ.out a' w' (hf'.lower (b := 64) (by simpa using hl0) ?_) hS
 intro k hk
 simp only [sget, sput]
 rw [if_neg (by omega), if_neg (by omega), if_neg (by omega), if_neg (by omega), if_neg (by omega), if_neg (by omega), if_neg (by omega), if_neg (by omega), if_neg (by omega), if_neg (by omega), if_neg (by omega), if_neg (by omega), if_neg (by omega), if_neg (by omega), if_neg (by omega)]
theorem run_R_append {α : Type} (d : Kd α) {P : Program} {W : World} (base : Nat) (t ty e : TypeId) (z : Value) (bytes : Nat)
  (ht : P.underlying t = some (.slice e)) (hinfo : (P.info? e).map (fun i => (i.zero, i.size, i.bytes)) = some (some z, d.sz, bytes)) (hz : z.cells.size = d.sz) (hs0 : 0 < d.sz) (hb0 : 0 < bytes)
  (v : Value) (xs : List α) (p : α) (cs : List Value) (ok okp : Nat → Prop) (hp : d.M W base okp p cs) (hokp : ∀ k, okp k → ok k ∧ some k ≠ v.ownBlock) (hfresh : ∀ k, W.heap.size ≤ k → ok k)
  (HO : d.R e W base ok v xs) (hbase : base ≤ W.heap.size) (hl : (xs.length + 1) * bytes ≤ 140737488355328) :
  ∃ v1 w1, (Builtin.append_ #[t, t] ty #[v, .slice (some ⟨W.heap.size, 0, none⟩) 1 1]).run P (W.alloc (.cells cs.toArray e)) = .ok v1 w1 ∧ d.R e w1 base ok v1 (xs ++ [p]) ∧ W.grownBy w1 v.ownBlock ∧
   (v1.ownBlock = v.ownBlock ∨ ∃ b, v1.ownBlock = some b ∧ W.heap.size ≤ b) ∧ ∃ A n c, v1 = .slice A n c := by
 obtain ⟨h0, inner, hown, hr⟩ := HO
 obtain ⟨i0, hi, hzz⟩ := Option.map_eq_some_iff.1 hinfo
 simp only [Prod.mk.injEq] at hzz
 obtain ⟨hz0, hz1, hz2⟩ := hzz
 have hlen : xs.length + 1 ≤ 140737488355328 := Nat.le_trans (Nat.le_mul_of_pos_right _ hb0) hl
 have hcl := d.K_len (d.K_of_M hp)
 obtain ⟨v1, w1, hrun, hown1, hg, _, hat⟩ := run_append_own_at (P := P) (w := W.alloc (.cells cs.toArray e)) base t ty e i0 z d.sz bytes ht hi hz0 hz1 hz2 hz hs0 v xs.length inner (hown.alloc _) ⟨W.heap.size, 0, none⟩ 1 1 cs (by rw [hcl]; simp)
  (by simpa using World.news_of_block (cs := cs.toArray) (t := e) (fr := (0, 0)) (heap_alloc_new W (.cells cs.toArray e))) (d.K_one (d.K_of_M hp)) (by simp only [maxLen]; omega) hl (by simp; omega)
 have hg1 : W.grownBy w1 v.ownBlock := World.grownBy.trans (World.grownBy_alloc W _ _) hg
 have hat1 : v1.ownBlock = v.ownBlock ∨ ∃ b, v1.ownBlock = some b ∧ W.heap.size ≤ b := by
  rcases hat with hat | hat
  ·exact .inl hat
  ·exact .inr ⟨_, hat, by simp⟩
 refine ⟨v1, w1, hrun, Kd.R_appended h0 hr hp hokp hfresh hown1 hg1 hat1, hg1, hat1, ?_⟩
 rcases hown1.2 with ⟨rfl, _⟩ | ⟨_, _, _, rfl, _⟩
 ·exact ⟨_, _, _, rfl⟩
 ·exact ⟨_, _, _, rfl⟩
theorem R_own_type {α : Type} {d : Kd α} {e : Nat} {w : World} {base : Nat} {ok : Nat → Prop} {v : Value} {xs : List α} (h : d.R e w base ok v xs) {k : Nat} (hk : v.ownBlock = some k) : ∃ cells, w.heap[k]? = some (.cells cells e (0, 0)) := by
 obtain ⟨_, inner, ho, _⟩ := h
 exact own_typed ho k hk
def S14 (w0 w1 w2 w3 : World) : Nat → World → Prop
 | 0, W => W = w0
 | 1, W => W = w1
 | 2, W => W = w2
 | _, W => W = w3
structure App (wr : World) (wb base : Nat) (ok : Nat → Prop) (OV : Value) (cs : Array Value) (xs : List Int) (W : World) : Prop where
 os : W.os = wr.os
 tape : W.tape = wr.tape
 output : W.output = wr.output
 size : wr.heap.size ≤ W.heap.size
 other : ∀ j, j < wr.heap.size → j ≠ wb → some j ≠ OV.ownBlock → W.heap[j]? = wr.heap[j]?
 row : ∃ v1, W.heap[wb]? = some (.cells (cs.setIfInBounds 5 v1) 83 (0, 0)) ∧ Kd.R (Kd.int .i64) 3 W base ok v1 xs
set_option maxHeartbeats 4000000 in
set_option maxRecDepth 100000 in
theorem enter_order (RG : Code) (hRG : (Tryz.f52.body.bind (regOf 14)) = some RG) (F : Fence) (hfn : ∀ f, F.fn f) (nn : Nat) (ds : List Deferred) (Q : Exit → Act → World → Prop) (a : Act) (wr : World) (wb vb i base : Nat) (ok : Nat → Prop) (OV : Value) (cs : Array Value) (xs : List Int) (l0 : Slots)
  (hl0 : (l0.all fun p => decide (p.1 < 79)) = true) (hf : Fr 92 ds ((7, .pointer (some ⟨vb, 0, none⟩)) :: (11, .int .i64 (i : Nat)) :: l0) a)
  (c0 : wr.cell? ⟨vb, 0, none⟩ = some (.pointer (some ⟨wb, 0, none⟩))) (hwb : wr.heap[wb]? = some (.cells cs 83 (0, 0))) (h5 : cs[5]? = some OV) (hvb : ∃ u, wr.heap[vb]? = some (.cells u 75 (0, 0)))
  (hrow : Kd.R (Kd.int .i64) 3 wr base ok OV xs) (hfresh : ∀ k, wr.heap.size ≤ k → ok k) (hbase : base ≤ wr.heap.size) (hl : xs.length ≤ 1000)
  (hQ : ∀ a' W, Fr 92 ds ((7, .pointer (some ⟨vb, 0, none⟩)) :: (11, .int .i64 (i : Nat)) :: l0) a' → App wr wb base ok OV cs (xs ++ [(i : Int)]) W → Q .normal a' W) :
  RG.wpIn F nn Tryz.prog Q a wr := by
 simp only [Tryz.f52, Option.bind_some, regOf] at hRG
 simp only [reduceCtorEq, Nat.reduceEqDiff, if_false, if_true, ↓reduceIte] at hRG
 obtain rfl := (Option.some.inj hRG).symm
 clear hRG
 obtain ⟨u, hvb⟩ := hvb
 have hne : vb ≠ wb := fun e => by rw [e, hwb] at hvb; cases hvb
 obtain ⟨w0, hw0⟩ : ∃ w0 : World, w0 = { wr with drawn := wr.drawn + 1 } := ⟨_, rfl⟩
 have e0 : w0.heap = wr.heap := by rw [hw0]
 have hrow0 : Kd.R (Kd.int .i64) 3 w0 base ok OV xs := Kd.R_move hrow fun k _ => by rw [e0]
 obtain ⟨v1, w2, hap, hrow2, hg, hat, A1, n1, k1, rfl⟩ := run_R_append (Kd.int .i64) (P := Tryz.prog) (W := w0) base 37 37 3 (.int .i64 0) 8 Tryz.underlying37 info3 rfl (by decide) (by decide) OV xs (i : Int) [.int .i64 (i : Nat)] ok (fun _ => False) rfl (fun _ hk => hk.elim)
  (fun k hk => hfresh k (by rw [← e0]; exact hk)) hrow0 (by rw [e0]; exact hbase) (by omega)
 obtain ⟨w1, hw1⟩ : ∃ w1 : World, w1 = w0.alloc (.cells [Value.int .i64 (i : Nat)].toArray 3) := ⟨_, rfl⟩
 rw [← hw1] at hap
 have hlt : wb < w0.heap.size := by rw [e0]; exact (Array.getElem?_eq_some_iff.1 hwb).1
 have hltv : vb < w0.heap.size := by rw [e0]; exact (Array.getElem?_eq_some_iff.1 hvb).1
 have hown : ∀ j cs' t, wr.heap[j]? = some (.cells cs' t (0, 0)) → t ≠ 3 → some j ≠ OV.ownBlock := fun j cs' t hj ht e => by
  obtain ⟨cells, hc⟩ := R_own_type hrow0 e.symm
  rw [e0, hj] at hc
  injection hc with hc
  injection hc with _ h3
  exact ht h3
 have b1 : ∀ j, j < w0.heap.size → w1.heap[j]? = wr.heap[j]? := fun j hj => by rw [hw1, ← e0]; exact Below.heap_alloc _ _ _ hj
 have b2 : ∀ (j : Nat) (cs' : Array Value) (t : TypeId), wr.heap[j]? = some (Obj.cells cs' t (0, 0)) → t ≠ 3 → w2.heap[j]? = wr.heap[j]? := fun j cs' t hj ht => by
  have hlt := (Array.getElem?_eq_some_iff.1 hj).1
  rw [hg.block j (by rw [e0]; exact hlt) (hown j cs' t hj ht), e0]
 have hb2 := b2 wb _ _ hwb (by decide)
 have cell_at : ∀ (W : World) (j o : Nat), W.heap[j]? = wr.heap[j]? → W.cell? ⟨j, o, none⟩ = wr.cell? ⟨j, o, none⟩ := fun W j o h => by unfold World.cell?; rw [h]
 have c5 : wr.cell? ⟨wb, 5, none⟩ = some OV := by unfold World.cell?; rw [hwb]; exact h5
 obtain ⟨w3, hw3⟩ : ∃ w3 : World, w3 = w2.setCell ⟨wb, 5, none⟩ (.slice A1 n1 k1) := ⟨_, rfl⟩
 have hbv2 := b2 vb _ _ hvb (by decide)
 have v0 : w0.cell? ⟨vb, 0, none⟩ = some (.pointer (some ⟨wb, 0, none⟩)) := by rw [cell_at _ _ _ (by rw [e0])]; exact c0
 have v1 : w1.cell? ⟨vb, 0, none⟩ = some (.pointer (some ⟨wb, 0, none⟩)) := by rw [cell_at _ _ _ (b1 _ hltv)]; exact c0
 have v2 : w2.cell? ⟨vb, 0, none⟩ = some (.pointer (some ⟨wb, 0, none⟩)) := by rw [cell_at _ _ _ hbv2]; exact c0
 have v3 : w3.cell? ⟨vb, 0, none⟩ = some (.pointer (some ⟨wb, 0, none⟩)) := by rw [hw3, cell_at _ _ _ ((Below.heap_setCell _ _ _ _ hne).trans hbv2)]; exact c0
 have p0 : w0.cell? ⟨wb, 5, none⟩ = some OV := by rw [cell_at _ _ _ (by rw [e0])]; exact c5
 have p1 : w1.cell? ⟨wb, 5, none⟩ = some OV := by rw [cell_at _ _ _ (b1 _ hlt)]; exact c5
 have p2 : w2.cell? ⟨wb, 5, none⟩ = some OV := by rw [cell_at _ _ _ hb2]; exact c5
 have q2 : w2.frozen? ⟨wb, 5, none⟩ = false := by unfold World.frozen?; rw [hb2, hwb]; rfl
 have HQ := Aside0.mk hQ
 have HG := Aside0.mk hg
 have HR2 := Aside0.mk hrow2
 have HW1 := Aside0.mk hw1
 have HW3 := Aside0.mk hw3
 have HW0 := Aside0.mk hw0
 have HE0 := Aside0.mk e0
 clear hQ hg hrow2 hat hrow0 hrow hw1 hb2 hbv2 e0
 refine wpIn_region_KX hfn (by kernel_rfl) hf (S14 w0 w1 w2 w3) [6, 7, 10] HW0.out.symm (by kernel_rfl) (by kernel_rfl) (by kernel_rfl) ?_
 clear hw0 hw3
 apply ChainK.pure
 ·rfl
 ·rfl
 ·decide
 ·intro t ht W hW
  rcases t with _ | _ | _ | t
  ·obtain rfl : W = w0 := hW
   go_simp
   first | exact rfl | exact ⟨rfl, rfl⟩
  ·obtain rfl : W = w1 := hW
   go_simp
   first | exact rfl | exact ⟨rfl, rfl⟩
  ·obtain rfl : W = w2 := hW
   go_simp
   first | exact rfl | exact ⟨rfl, rfl⟩
  ·obtain rfl : W = w3 := hW
   go_simp
   first | exact rfl | exact ⟨rfl, rfl⟩
 apply ChainK.pure
 ·rfl
 ·rfl
 ·decide
 ·intro t ht W hW
  rcases t with _ | _ | _ | t
  ·obtain rfl : W = w0 := hW
   go_simp
   first | exact rfl | exact ⟨rfl, rfl⟩
  ·obtain rfl : W = w1 := hW
   go_simp
   first | exact rfl | exact ⟨rfl, rfl⟩
  ·obtain rfl : W = w2 := hW
   go_simp
   first | exact rfl | exact ⟨rfl, rfl⟩
  ·obtain rfl : W = w3 := hW
   go_simp
   first | exact rfl | exact ⟨rfl, rfl⟩
 apply ChainK.pure
 ·rfl
 ·rfl
 ·decide
 ·intro t ht W hW
  rcases t with _ | _ | _ | t
  ·obtain rfl : W = w0 := hW
   go_simp
   first | exact rfl | exact ⟨rfl, rfl⟩
  ·obtain rfl : W = w1 := hW
   go_simp
   first | exact rfl | exact ⟨rfl, rfl⟩
  ·obtain rfl : W = w2 := hW
   go_simp
   first | exact rfl | exact ⟨rfl, rfl⟩
  ·obtain rfl : W = w3 := hW
   go_simp
   first | exact rfl | exact ⟨rfl, rfl⟩
 apply ChainK.pure
 ·rfl
 ·rfl
 ·decide
 ·intro t ht W hW
  rcases t with _ | _ | _ | t
  ·obtain rfl : W = w0 := hW
   go_simp
   first | exact rfl | exact ⟨rfl, rfl⟩
  ·obtain rfl : W = w1 := hW
   go_simp
   first | exact rfl | exact ⟨rfl, rfl⟩
  ·obtain rfl : W = w2 := hW
   go_simp
   first | exact rfl | exact ⟨rfl, rfl⟩
  ·obtain rfl : W = w3 := hW
   go_simp
   first | exact rfl | exact ⟨rfl, rfl⟩
 apply ChainK.pure
 ·rfl
 ·rfl
 ·decide
 ·intro t ht W hW
  have ht' : t ≤ 1 := Nat.le_trans ht (Nat.le_of_ble_eq_true (by kernel_rfl))
  rcases t with _ | _ | t
  ·obtain rfl : W = w0 := hW
   go_simp
   first | exact rfl | exact ⟨rfl, rfl⟩
  ·obtain rfl : W = w1 := hW
   go_simp
   first | exact rfl | exact ⟨rfl, rfl⟩
  ·omega
 apply ChainK.pure
 ·rfl
 ·rfl
 ·decide
 ·intro t ht W hW
  rcases t with _ | _ | _ | t
  ·obtain rfl : W = w0 := hW
   go_simp
   first | exact rfl | exact ⟨rfl, rfl⟩
  ·obtain rfl : W = w1 := hW
   go_simp
   first | exact rfl | exact ⟨rfl, rfl⟩
  ·obtain rfl : W = w2 := hW
   go_simp
   first | exact rfl | exact ⟨rfl, rfl⟩
  ·obtain rfl : W = w3 := hW
   go_simp
   first | exact rfl | exact ⟨rfl, rfl⟩
 apply ChainK.change 0
 ·rfl
 ·rfl
 ·rfl
 ·intro W hW
  obtain rfl : W = w0 := hW
  go_simp
  exact ⟨rfl, HW1.out.symm⟩
 apply ChainK.change 1
 ·rfl
 ·rfl
 ·rfl
 ·intro W hW
  obtain rfl : W = w1 := hW
  simp only [execOp, resolve, invoke, builtin, Sem.run_bind, Sem.run_pure, Result.andThen_ok, List.map_toArray, List.map_cons, List.map_nil, slk, sget, sput, ↓reduceIte, Nat.reduceEqDiff, Option.getD_some, hap]
  exact ⟨rfl, rfl⟩
 apply ChainK.pure
 ·rfl
 ·rfl
 ·decide
 ·intro t ht W hW
  rcases t with _ | _ | _ | t
  ·obtain rfl : W = w0 := hW
   go_simp
   first | exact rfl | exact ⟨rfl, rfl⟩
  ·obtain rfl : W = w1 := hW
   go_simp
   first | exact rfl | exact ⟨rfl, rfl⟩
  ·obtain rfl : W = w2 := hW
   go_simp
   first | exact rfl | exact ⟨rfl, rfl⟩
  ·obtain rfl : W = w3 := hW
   go_simp
   first | exact rfl | exact ⟨rfl, rfl⟩
 apply ChainK.pure
 ·rfl
 ·rfl
 ·decide
 ·intro t ht W hW
  rcases t with _ | _ | _ | t
  ·obtain rfl : W = w0 := hW
   go_simp
   first | exact rfl | exact ⟨rfl, rfl⟩
  ·obtain rfl : W = w1 := hW
   go_simp
   first | exact rfl | exact ⟨rfl, rfl⟩
  ·obtain rfl : W = w2 := hW
   go_simp
   first | exact rfl | exact ⟨rfl, rfl⟩
  ·obtain rfl : W = w3 := hW
   go_simp
   first | exact rfl | exact ⟨rfl, rfl⟩
 apply ChainK.change 2
 ·rfl
 ·rfl
 ·rfl
 ·intro W hW
  obtain rfl : W = w2 := hW
  go_simp
  first | exact HW3.out.symm | exact ⟨rfl, HW3.out.symm⟩
 refine fun a' w' hf' hS => HQ.out a' w' (hf'.lower (b := 79) (by simpa using hl0) ?_) ?_
 ·intro k hk
  simp only [sget, sput]
  rw [if_neg (by omega), if_neg (by omega), if_neg (by omega), if_neg (by omega), if_neg (by omega), if_neg (by omega), if_neg (by omega), if_neg (by omega), if_neg (by omega), if_neg (by omega)]
 ·obtain rfl : w' = w3 := hS
  have h3 := HW3.out
  have hg := HG.out
  have e0 := HE0.out
  have e00 := HW0.out
  have hb2 := b2 wb _ _ hwb (by decide)
  have oo : w'.os = wr.os ∧ w'.tape = wr.tape ∧ w'.output = wr.output := by
   rw [h3]
   exact ⟨hg.os.trans (by rw [e00]), hg.tape.trans (by rw [e00]), hg.output.trans (by rw [e00])⟩
  refine ⟨oo.1, oo.2.1, oo.2.2, ?_, fun j hj h1 h2 => ?_, .slice A1 n1 k1, ?_, ?_⟩
  ·rw [h3, ← e0]; simp [World.setCell]; exact hg.size
  ·rw [h3, Below.heap_setCell _ _ _ _ h1, hg.block j (by rw [e0]; exact hj) h2, e0]
  ·rw [h3]; exact blk_set (hb2.trans hwb) 5 _
  ·refine Kd.R_mono (Kd.R_move (Kd.R_bound HR2.out) fun j hj => ?_) (fun _ hk => hk.1)
   obtain ⟨_, _, _, q, hq, cells, hc⟩ := hj
   rw [h3]
   refine Below.heap_setCell _ _ _ _ (fun e => ?_)
   subst e
   rw [hb2, hwb] at hc
   injection hc with hc
   injection hc with _ hq2
   subst hq2
   revert hq
   decide
end
section
open Prot (heldOf roundL roundP addL addOne mkLevel mkLevels at_ firesB Good Fits)
attribute [local go_sem] slk sget sput uponK_value uponK_skip uponK_enter
def reasonsOf (bk : List (Prot.Cl ByteArray)) (o : List Nat) : List (ByteArray × Value) := o.foldl (fun m i => mput m (at_ bk i).thn (.int .i64 i)) []
def MSt (w : World) (b r h g rr wb vb : Nat) (A0 : Option Addr) (c0 : Nat) (l0 : List S25) (m : List (ByteArray × Nat)) (ed : Int) (facts : List ByteArray) (ok : Nat → Prop) (o : List Nat) (W : World) : Prop :=
 Below w.heap.size w W ∧ W.heap[vb]? = some (.cells #[.pointer (some ⟨wb, 0, none⟩)] 75 (0, 0)) ∧ ∃ OV, WAt W wb b r h g rr (.slice A0 l0.length c0) m (topOf m) ed (setOf (heldOf (l0.map toC) facts o)) (setOf facts) (reasonsOf (l0.map toC) o) OV ∧
  Kd.R (Kd.int .i64) 3 W w.heap.size ok OV (ints o)
theorem heldOf_nil (bk : List (Prot.Cl ByteArray)) (facts : List ByteArray) : heldOf bk facts [] = facts := by simp [heldOf, Prot.thens]
def marks (ds : List Nat) : List Deferred := ds.map fun D => { target := .collected D, args := #[] }
def Marked (ds : List Nat) (W : World) : Prop := (∀ D ∈ ds, W.heap[D]? = some (.deferred (some []))) ∧ ds.Nodup
structure Off (ds : List Nat) (W W' : World) : Prop where
 os : W'.os = W.os
 tape : W'.tape = W.tape
 output : W'.output = W.output
 size : W'.heap.size = W.heap.size
 block : ∀ j, j ∉ ds → W'.heap[j]? = W.heap[j]?
theorem leaves_marks {F : Fence} {n : Nat} {P : Program} {fn : Func} {tmps : Array Value} {R : Ending → World → Prop} : ∀ (ds : List Nat) (W : World), (∀ D ∈ ds, W.heap[D]? = some (.deferred (some []))) → ds.Nodup →
  (∀ W', Off ds W W' → ∃ v, (results fn tmps).run P W' = .ok v W' ∧ R (.returned v) W') → LeavesInM F n P fn tmps R (marks ds) .returning W := by
 intro ds
 induction ds with
 | nil => intro W _ _ h; exact h W ⟨rfl, rfl, rfl, rfl, fun _ _ => rfl⟩
 | cons D ds ih =>
  intro W hm hn h
  have hD := hm D List.mem_cons_self
  obtain ⟨hn1, hn2⟩ := List.nodup_cons.1 hn
  refine ⟨by simp, .inl ⟨D, _, rfl, run_takeDeferred hD, ih _ (fun E hE => ?_) hn2 fun W' hW => h W' ?_⟩⟩
  ·rw [World.putObj_heap_other (fun e => hn1 (by rw [← e]; exact hE))]; exact hm E (List.mem_cons_of_mem _ hE)
  ·refine ⟨hW.os, hW.tape, hW.output, by rw [hW.size, World.putObj_size], fun j hj => ?_⟩
   rw [hW.block j (fun e => hj (List.mem_cons_of_mem _ e))]
   exact World.putObj_heap_other (fun e => hj (by rw [e]; exact List.mem_cons_self))
theorem rd_ints (l : List Nat) {j : Nat} (h : j < l.length) : rd (ints l) (j : Int) = (l[j] : Int) := by
 simp [rd, ints, List.getD_eq_getElem?_getD, List.getElem?_eq_getElem h]
theorem addL_take {bk : List (Prot.Cl ByteArray)} {facts : List ByteArray} (l : List Nat) {j : Nat} (h : j < l.length) (o : List Nat) : addL bk facts (l.take (j + 1)) o = addOne bk facts (addL bk facts (l.take j) o) l[j] := by
 unfold addL
 rw [← List.take_append_getElem h, List.foldl_append]
 rfl
theorem addr_add_block (a : Addr) (n : Nat) : (a.add n).block = a.block := by unfold Addr.add; split <;> rfl
theorem addL_prefix {lv : ByteArray → Nat} {ed : Int} {bk : List (Prot.Cl ByteArray)} {facts : List ByteArray} (hfit : Fits lv bk) {s : Nat} {o l : List Nat} (hg : Prot.Good lv ed bk facts o) (hs : ∀ j ∈ o, lv (at_ bk j).thn ≤ s)
  (hl : roundL lv ed s (heldOf bk facts o) bk = l) (j : Nat) : Prot.Good lv ed bk facts (addL bk facts (l.take j) o) ∧ ∀ i ∈ addL bk facts (l.take j) o, lv (at_ bk i).thn ≤ s := by
 have h := Prot.addL_good hfit (s := s) (start := o) (l.take j) o hg ⟨[], by simp, by simp⟩ hs (fun i hi => by
  have := List.mem_of_mem_take hi
  rw [← hl] at this
  obtain ⟨h1, h2, h3, _⟩ := Prot.mem_roundL.1 this
  exact ⟨h1, h2, h3⟩)
 exact ⟨h.1, h.2.2.1⟩
theorem rounds_make (wb : Nat) (k : Int) (w : World) : Calls Tryz.prog 74 #[.pointer (some ⟨wb, 0, none⟩), .int .i64 k] w fun e w' =>
  e = .returned (.func (.func 94) #[] #[.pointer (some ⟨w.heap.size, 0, none⟩), .pointer (some ⟨w.heap.size + 1, 0, none⟩)]) ∧ w' = (w.alloc (.cells #[.pointer (some ⟨wb, 0, none⟩)] 75)).alloc (.cells #[.int .i64 k] 3) := by
 have hmf : ∀ (fn : Fn) (first cap : Array Value) (w : World), (Instr.makeFunc fn first cap).run Tryz.prog w = .ok (.func fn first cap) w := fun _ _ _ _ => rfl
 go_enter Tryz.func74, Tryz.ntmps74
 go_wp2
 go_ret
 exact ⟨rfl, rfl⟩
def rfBody : Code → Option Code
 | .rangeFunc _ _ _ b => some b
 | .seq a b => match rfBody a with | some c => some c | none => rfBody b
 | .cond _ a b => match rfBody a with | some c => some c | none => rfBody b
 | .block _ c => rfBody c
 | .loop c => rfBody c
 | .scope c => rfBody c
 | _ => none
structure RSt (W1 : World) (ks : List Nat) (w : World) (b r h g rr wb vb : Nat) (A0 : Option Addr) (c0 : Nat) (l0 : List S25) (m : List (ByteArray × Nat)) (ed : Int) (facts : List ByteArray) (o : List Nat) (W : World) : Prop where
 st : MSt w b r h g rr wb vb A0 c0 l0 m ed facts (fun i => i ∉ ks) o W
 kept : ∀ k ∈ ks, W.heap[k]? = W1.heap[k]?
 size : W1.heap.size ≤ W.heap.size
theorem setOf_snoc (l : List ByteArray) (s : ByteArray) : setOf (l ++ [s]) = mput (setOf l) s (.bool true) := by simp [setOf]
theorem reasonsOf_snoc (bk : List (Prot.Cl ByteArray)) (o : List Nat) (i : Nat) : reasonsOf bk (o ++ [i]) = mput (reasonsOf bk o) (at_ bk i).thn (.int .i64 i) := by simp [reasonsOf]
theorem ints_snoc (o : List Nat) (i : Nat) : ints (o ++ [i]) = ints o ++ [(i : Int)] := by simp [ints]
theorem ints_len (o : List Nat) : (ints o).length = o.length := by simp [ints]
theorem RSt.enter {W1 wr WE W : World} {ks : List Nat} {w : World} {b r h g rr wb vb : Nat} {A0 : Option Addr} {c0 : Nat} {l0 : List S25} {m : List (ByteArray × Nat)} {ed : Int} {facts : List ByteArray} {o : List Nat} {i : Nat} {s : ByteArray} {OV : Value}
  (hst : RSt W1 ks w b r h g rr wb vb A0 c0 l0 m ed facts o wr) (hwa : WAt wr wb b r h g rr (.slice A0 l0.length c0) m (topOf m) ed (setOf (heldOf (l0.map toC) facts o)) (setOf facts) (reasonsOf (l0.map toC) o) OV)
  (hs : s = (at_ (l0.map toC) i).thn) (hE : Ent wr h rr (mput (setOf (heldOf (l0.map toC) facts o)) s (.bool true)) (mput (reasonsOf (l0.map toC) o) s (.int .i64 (i : Nat))) WE)
  (hrow : Kd.R (Kd.int .i64) 3 WE w.heap.size (fun i => i ∉ ks) OV (ints o))
  (hA : App WE wb w.heap.size (fun i => i ∉ ks) OV #[.pointer (some ⟨b, 0, none⟩), .int .i64 ed, .map (some h), .map (some g), .map (some rr), OV] (ints o ++ [(i : Int)]) W)
  (hks : ∀ k ∈ ks, k ≠ h ∧ k ≠ rr ∧ k ≠ wb ∧ k < W1.heap.size) (hmaps : h ≠ g ∧ h ≠ rr ∧ h ≠ r ∧ rr ≠ g ∧ rr ≠ r) (hlow : w.heap.size ≤ h ∧ w.heap.size ≤ rr ∧ w.heap.size ≤ wb) : RSt W1 ks w b r h g rr wb vb A0 c0 l0 m ed facts (o ++ [i]) W := by
 obtain ⟨⟨hbw, hvb, _⟩, hkp, hsz⟩ := hst
 have hown : ∀ {j : Nat} {ob : Obj}, WE.heap[j]? = some ob → (∀ cells, ob ≠ .cells cells 3 (0, 0)) → some j ≠ OV.ownBlock := fun {j ob} hj hn e => by
  obtain ⟨cells, hc⟩ := R_own_type hrow e.symm
  rw [hj] at hc
  exact hn cells (Option.some.inj hc)
 have hobase : ∀ j, some j = OV.ownBlock → w.heap.size ≤ j ∧ j ∉ ks := fun j e => by
  have hb := Kd.R_bound hrow
  have := hb.1 j e.symm
  exact ⟨this.2.1, this.1⟩
 have eE : ∀ {j : Nat} {ob : Obj}, wr.heap[j]? = some ob → j ≠ h → j ≠ rr → WE.heap[j]? = some ob := fun {j ob} hj h1 h2 => (hE.other j h1 h2).trans hj
 have mv : ∀ {j : Nat} {ob : Obj}, WE.heap[j]? = some ob → j ≠ wb → (∀ cells, ob ≠ .cells cells 3 (0, 0)) → W.heap[j]? = some ob := fun {j ob} hj h1 hn =>
  (hA.other j (Array.getElem?_eq_some_iff.1 hj).1 h1 (hown hj hn)).trans hj
 have blk := hwa.blk
 have bk := hwa.book
 have nb : wb ≠ h ∧ wb ≠ rr := by
  constructor <;> intro e
  ·have := hwa.held.out; rw [← e, blk] at this; cases this
  ·have := hwa.reasons.out; rw [← e, blk] at this; cases this
 have hvh : vb ≠ h ∧ vb ≠ rr ∧ vb ≠ wb := by
  refine ⟨fun e => ?_, fun e => ?_, fun e => ?_⟩
  ·have := hwa.held.out; rw [← e, hvb] at this; cases this
  ·have := hwa.reasons.out; rw [← e, hvb] at this; cases this
  ·rw [e, blk] at hvb; cases hvb
 obtain ⟨v1, hblk, hR⟩ := hA.row
 have hbk := bk.blk
 have hbm := bk.map.out
 have hbh : b ≠ h ∧ b ≠ rr ∧ b ≠ wb := by
  refine ⟨fun e => ?_, fun e => ?_, fun e => ?_⟩
  ·have := hwa.held.out; rw [← e, hbk] at this; cases this
  ·have := hwa.reasons.out; rw [← e, hbk] at this; cases this
  ·rw [e, blk] at hbk; cases hbk
 have mw : ∀ {j : Nat} {es : Array MapEntry} {n : Nat}, WE.heap[j]? = some (.map es n) → W.heap[j]? = some (.map es n) := fun {j es n} hj => by
  refine mv hj (fun e => ?_) (fun _ e => by cases e)
  subst e
  rw [hE.other _ nb.1 nb.2, blk] at hj
  cases hj
 refine ⟨⟨⟨hA.os.trans (hE.os.trans hbw.os), hA.tape.trans (hE.tape.trans hbw.tape), hA.output.trans (hE.output.trans hbw.output), ?_, fun j hj => ?_⟩, ?_, v1, ⟨hblk, ⟨?_, ?_⟩, ?_, ?_, ?_⟩, ?_⟩, fun k hk => ?_, ?_⟩
 ·have h1 := hA.size; rw [hE.size] at h1; have := hbw.size; omega
 ·have h1 := hbw.size
  have hne : some j ≠ OV.ownBlock := fun e => by have := (hobase j e).1; omega
  rw [hA.other j (by rw [hE.size]; omega) (by omega) hne, hE.other j (by omega) (by omega)]
  exact hbw.block j hj
 ·exact mv (eE hvb hvh.1 hvh.2.1) hvh.2.2 (fun _ e => by cases e)
 ·exact mv (eE hbk hbh.1 hbh.2.1) hbh.2.2 (fun _ e => by cases e)
 ·exact mw (eE hbm (Ne.symm hmaps.2.2.1) (Ne.symm hmaps.2.2.2.2))
 ·have h1 := mw hE.held.out
  rw [hs, ← setOf_snoc] at h1
  rw [show heldOf (l0.map toC) facts (o ++ [i]) = heldOf (l0.map toC) facts o ++ [(at_ (l0.map toC) i).thn] by simp [heldOf, Prot.thens]]
  exact h1
 ·exact mw (eE hwa.given.out (Ne.symm hmaps.1) (Ne.symm hmaps.2.2.2.1))
 ·have h1 := mw hE.reasons.out
  rw [hs, ← reasonsOf_snoc] at h1
  exact h1
 ·rw [ints_snoc]; exact hR
 ·obtain ⟨k1, k2, k3, k4⟩ := hks k hk
  have hne : some k ≠ OV.ownBlock := fun e => (hobase k e).2 hk
  rw [hA.other k (by rw [hE.size]; omega) k3 hne, hE.other k k1 k2]
  exact hkp k hk
 ·have h1 := hA.size; rw [hE.size] at h1; omega
set_option maxHeartbeats 4000000 in
set_option maxRecDepth 100000 in
theorem made_round (BD : Code) (hBD : (Tryz.f52.body.bind rfBody) = some BD) (nn L : Nat) (Q : Exit → Act → World → Prop) (a : Act) (W1 : World) (ks : List Nat) (w : World) (b r h g rr wb vb : Nat) (c c0 : Nat) (A0 : Option Addr) (adA : Addr) (l0 : List S25) (m : List (ByteArray × Nat)) (ed : Int)
  (facts : List ByteArray) (l o2 : List Nat) (hf : Fr 92 [] [(7, .pointer (some ⟨vb, 0, none⟩)), (9, .slice (some adA) l.length c)] a) (hr0 : Kd.C k25 w A0 l0.length l0) (hst1 : RSt W1 ks w b r h g rr wb vb A0 c0 l0 m ed facts o2 W1) (hll : ∀ i ∈ l, i < l0.length) (hlen : l0.length ≤ 64) (hgood : ∀ j, (addL (l0.map toC) facts (l.take j) o2).length ≤ 64)
  (hrd : (Kd.int .i64).C W1 (some adA) (ints l).length (ints l)) (hks : ∀ k ∈ ks, k ≠ h ∧ k ≠ rr ∧ k ≠ wb ∧ k < W1.heap.size) (hkA : adA.block ∈ ks) (hmaps : h ≠ g ∧ h ≠ rr ∧ h ≠ r ∧ rr ≠ g ∧ rr ≠ r) (hlow : w.heap.size ≤ h ∧ w.heap.size ≤ rr ∧ w.heap.size ≤ wb)
  (hQ : ∀ a' w', RSt W1 ks w b r h g rr wb vb A0 c0 l0 m ed facts (addL (l0.map toC) facts l o2) w' → Q .normal a' w') :
  BD.wpIn (Fence.wide.inRound L) nn Tryz.prog Q a W1 := by
 have hfn : ∀ f, (Fence.wide.inRound L).fn f := fun _ => trivial
 have hC : ∀ f args w R, Calls Tryz.prog f args w R → CallsIn (Fence.wide.inRound L) (nn - 1) Tryz.prog f args w R := fun _ _ _ _ h => callsIn_inRound h
 simp only [Tryz.f52, Option.bind_some, rfBody] at hBD
 obtain rfl := (Option.some.inj hBD).symm
 clear hBD
 have HIL := Aside0.mk (ints_len l)
 have hj63 : l.length ≤ 9223372036854775807 := by have := hrd.2.1; rw [HIL.out] at this; exact this
 refine wpIn_block (wpIn_seq ?_)
 have HF := hf
 refine wpIn_region_k hfn rfl hC HF fun K hK => ?_
 iterate 3 (refine OpsK.step rfl rfl rfl ?_; go_simp)
 refine OpsK.nil (hK _ _ fun a' hf' => ?_)
 clear hK K HF
 have HF : Fr 92 [] [(7, .pointer (some ⟨vb, 0, none⟩)), (41, .slice (some adA) l.length c), (42, .int .i64 (l.length : Nat)), (43, .int .i64 0)] a' := hf'.sub ⟨rfl, rfl, rfl, rfl, trivial⟩
 clear hf' hf
 refine wpIn_block (wpIn_loop (fun a w' => ∃ j : Nat, j ≤ l.length ∧ Fr 92 [] [(7, .pointer (some ⟨vb, 0, none⟩)), (41, .slice (some adA) l.length c), (42, .int .i64 (l.length : Nat)), (43, .int .i64 (j : Nat))] a ∧ RSt W1 ks w b r h g rr wb vb A0 c0 l0 m ed facts (addL (l0.map toC) facts (l.take j) o2) w')
  (fun a _ => l.length - (intOf (a.eval (.tmp 43))).toNat) ⟨0, Nat.zero_le _, HF, hst1⟩ ?_)
 clear HF
 rintro a wr ⟨j, hj, HF, hst⟩
 have hmu : l.length - (intOf (a.eval (.tmp 43))).toNat = l.length - j := by rw [HF.tmp (k := 43) rfl]; simp [intOf]
 rw [hmu]
 clear hmu
 by_cases hjl : j < l.length
 ·obtain ⟨⟨hbv, hvb3, OV3, hwa3, hr3⟩, hkp, hsz⟩ := hst
  obtain ⟨i, hi⟩ : ∃ i, i = l[j] := ⟨_, rfl⟩
  have hil : i < l0.length := by rw [hi]; exact hll _ (List.getElem_mem hjl)
  obtain ⟨adA', hAe, hAc⟩ := Kd.at_int hrd (j : Int) (by omega) (by rw [HIL.out]; omega)
  cases hAe
  have hAc3 : wr.cell? (adA.add j) = some (.int .i64 (i : Nat)) := by
   have hrdj : rd (ints l) (j : Int) = (i : Int) := by rw [hi]; exact rd_ints l hjl
   rw [← hrdj]
   simp only [Int.toNat_natCast] at hAc
   rw [← hAc]
   exact World.cell?_of_block (by rw [addr_add_block]; exact hkp _ hkA)
  obtain ⟨ad, A3, c3, A4, c4, hA0, x0, x1, x2, x3, x4, x5, l3, g3, l4, g4⟩ := at_T25 (Kd.C_below hr0 hbv) (i : Int) (by omega) (by omega)
  simp only [Int.toNat_natCast] at x5
  obtain ⟨x, hx⟩ : ∃ x, x = rd_T25 l0 (i : Int) := ⟨_, rfl⟩
  rw [← hx] at x5
  have hat : at_ (l0.map toC) i = toC x := by rw [hx]; exact at_toC l0 hil
  have hvc3 := cell_of hvb3
  obtain ⟨y0, y1, y2, y3, y4, y5, y6⟩ := hwa3.cells
  obtain ⟨q0, q1, q2, q3⟩ := hwa3.book.cell
  obtain ⟨O3, hO3⟩ : ∃ O3, O3 = addL (l0.map toC) facts (l.take j) o2 := ⟨_, rfl⟩
  rw [← hO3] at hwa3 hr3
  have hlk : (Instr.lookup 71 (.map (some h)) (.string x.f5) false).run Tryz.prog wr = .ok (.bool (has (setOf (heldOf (l0.map toC) facts O3)) x.f5)) wr := by
   rw [← bool_of_true (setOf_true _)]
   exact run_lookup_at keyS Tryz.underlying71 Tryz.underlying9 hwa3.held zero4 _
  have hnext : addL (l0.map toC) facts (l.take (j + 1)) o2 = addOne (l0.map toC) facts O3 i := by
   rw [hO3, hi, addL_take l hjl]
  have hone : addOne (l0.map toC) facts O3 i = if has (setOf (heldOf (l0.map toC) facts O3)) x.f5 then O3 else O3 ++ [i] := by
   unfold addOne
   rw [hat, has_setOf]
   simp [toC]
  have hlt : ((j : Nat) : Int) < ((l.length : Nat) : Int) := by omega
  have hwrap : IntKind.i64.wrap ((j : Int) + 1) = ((j + 1 : Nat) : Int) := by
   rw [IntWalk.i64_in _ (by omega)]; omega
  cases A0 with
  | none => cases hA0
  | some ad0 =>
  cases hA0
  have HII := Aside0.mk hi
  have HO3 := Aside0.mk hO3
  have HWA := Aside0.mk hwa3
  have HRR := Aside0.mk hr3
  have HBV := Aside0.mk hbv
  have HVB := Aside0.mk hvb3
  have HXX := Aside0.mk hx
  have HAT := Aside0.mk hat
  have HKP := Aside0.mk hkp
  have HWR := Aside0.mk hwrap
  have HHQ := Aside0.mk hQ
  have HNX := Aside0.mk hnext
  have HON := Aside0.mk hone
  clear hi hO3 hwa3 hr3 hbv hvb3 hx hat hAc x0 x1 x2 x3 x4 l3 g3 l4 g4 hkp hwrap hQ hnext hone
  refine wpIn_seq ?_
  refine wpIn_region_k hfn rfl hC HF fun K hK => ?_
  refine OpsK.step rfl rfl rfl ?_
  go_simp
  refine OpsK.nil (hK _ _ fun a' hf' => ?_)
  clear hK K HF
  have HF : Fr 92 [] [(7, .pointer (some ⟨vb, 0, none⟩)), (41, .slice (some adA) l.length c), (42, .int .i64 (l.length : Nat)), (43, .int .i64 (j : Nat)), (44, .bool true)] a' := hf'.sub ⟨rfl, rfl, rfl, rfl, rfl, trivial⟩
  clear hf'
  refine wpIn_seq (wpIn_cond_true (HF.tmp rfl) (wpIn_skip ?_))
  refine wpIn_seq (wpIn_block (wpIn_seq ?_))
  refine wpIn_region_k hfn rfl hC HF fun K hK => ?_
  iterate 3 (refine OpsK.step rfl rfl rfl ?_; go_simp)
  refine OpsK.nil (hK _ _ fun a' hf' => ?_)
  clear hK K HF
  have HF : Fr 92 [] [(7, .pointer (some ⟨vb, 0, none⟩)), (41, .slice (some adA) l.length c), (42, .int .i64 (l.length : Nat)), (43, .int .i64 (j : Nat)), (11, .int .i64 (i : Nat))] a' := hf'.sub ⟨rfl, rfl, rfl, rfl, rfl, trivial⟩
  clear hf'
  refine wpIn_seq ?_
  refine wpIn_region_k hfn rfl hC HF fun K hK => ?_
  iterate 12 (refine OpsK.step rfl rfl rfl ?_; go_simp)
  refine OpsK.nil (hK _ _ fun a' hf' => ?_)
  clear hK K HF
  have HF : Fr 92 [] [(7, .pointer (some ⟨vb, 0, none⟩)), (41, .slice (some adA) l.length c), (42, .int .i64 (l.length : Nat)), (43, .int .i64 (j : Nat)), (11, .int .i64 (i : Nat)), (12, .string x.f5)] a' := hf'.sub ⟨rfl, rfl, rfl, rfl, rfl, rfl, trivial⟩
  clear hf'
  refine wpIn_seq (wpIn_seq ?_)
  refine wpIn_region_k hfn rfl hC HF fun K hK => ?_
  iterate 6 (refine OpsK.step rfl rfl rfl ?_; go_simp)
  refine OpsK.nil (hK _ _ fun a' hf' => ?_)
  clear hK K HF
  have HF : Fr 92 [] [(7, .pointer (some ⟨vb, 0, none⟩)), (41, .slice (some adA) l.length c), (42, .int .i64 (l.length : Nat)), (43, .int .i64 (j : Nat)), (11, .int .i64 (i : Nat)), (12, .string x.f5), (63, .bool (has (setOf (heldOf (l0.map toC) facts O3)) x.f5))] a' := hf'.sub ⟨rfl, rfl, rfl, rfl, rfl, rfl, rfl, trivial⟩
  clear hf' hlk
  cases hhas : has (setOf (heldOf (l0.map toC) facts O3)) x.f5 with
  | true =>
   rw [hhas] at HF
   have HH := Aside0.mk hhas
   clear hhas
   have HNE : Aside0 (addL (l0.map toC) facts (l.take (j + 1)) o2 = O3) := ⟨by rw [HNX.out, HON.out, HH.out]; rfl⟩
   refine wpIn_cond_true (HF.tmp rfl) (wpIn_exit ?_)
   show Code.wpIn _ _ _ (Code.region 15 _ _) _ _ _
   refine wpIn_region_k hfn rfl hC HF fun K hK => ?_
   iterate 2 (refine OpsK.step rfl rfl rfl ?_; go_simp)
   refine OpsK.nil (hK _ _ fun a' hf' => ?_)
   clear hK K HF
   rw [HWR.out] at hf'
   have HF : Fr 92 [] [(7, .pointer (some ⟨vb, 0, none⟩)), (41, .slice (some adA) l.length c), (42, .int .i64 (l.length : Nat)), (43, .int .i64 ((j + 1 : Nat) : Int))] a' := hf'.sub ⟨rfl, rfl, rfl, rfl, trivial⟩
   clear hf'
   refine ⟨⟨j + 1, by omega, HF, by rw [HNE.out]; exact ⟨⟨HBV.out, HVB.out, OV3, HWA.out, HRR.out⟩, HKP.out, hsz⟩⟩, ?_⟩
   rw [HF.tmp (k := 43) rfl]
   simp only [intOf]
   omega
  | false =>
   rw [hhas] at HF
   have HH := Aside0.mk hhas
   clear hhas
   have HNE : Aside0 (addL (l0.map toC) facts (l.take (j + 1)) o2 = O3 ++ [i]) := ⟨by rw [HNX.out, HON.out, HH.out]; rfl⟩
   refine wpIn_cond_false (HF.tmp rfl) (wpIn_skip ?_)
   have hwa := HWA.out
   have nb : wb ≠ h ∧ wb ≠ rr := by
    constructor <;> intro e
    ·have := hwa.held.out; rw [← e, hwa.blk] at this; cases this
    ·have := hwa.reasons.out; rw [← e, hwa.blk] at this; cases this
   have hvh : vb ≠ h ∧ vb ≠ rr := by
    refine ⟨fun e => ?_, fun e => ?_⟩
    ·have := hwa.held.out; rw [← e, HVB.out] at this; cases this
    ·have := hwa.reasons.out; rw [← e, HVB.out] at this; cases this
   refine wpIn_seq (enter_maps _ rfl _ hfn nn [] _ _ wr wb vb h rr i x.f5 (setOf (heldOf (l0.map toC) facts O3)) (reasonsOf (l0.map toC) O3) [(41, .slice (some adA) l.length c), (42, .int .i64 (l.length : Nat)), (43, .int .i64 (j : Nat))] rfl (HF.sub ⟨rfl, rfl, rfl, rfl, rfl, rfl, trivial⟩) hvc3 y2 y4 hwa.held hwa.reasons hmaps.2.1 hvh.1 hvh.2 nb.1 nb.2 fun a2 WE hf2 hE => ?_)
   have hrE : Kd.R (Kd.int .i64) 3 WE w.heap.size (fun i => i ∉ ks) OV3 (ints O3) := by
    refine Kd.R_mono (Kd.R_move (Kd.R_bound HRR.out) fun k hk => ?_) (fun _ hk => hk.1)
    obtain ⟨_, _, _, q, hq, cells, hc⟩ := hk
    refine hE.other k (fun e => ?_) (fun e => ?_)
    ·subst e; have := hwa.held.out; rw [hc] at this; cases this
    ·subst e; have := hwa.reasons.out; rw [hc] at this; cases this
   have hblkE : WE.heap[wb]? = some (.cells #[.pointer (some ⟨b, 0, none⟩), .int .i64 ed, .map (some h), .map (some g), .map (some rr), OV3] 83 (0, 0)) := (hE.other wb nb.1 nb.2).trans hwa.blk
   have hvbE : WE.heap[vb]? = some (.cells #[.pointer (some ⟨wb, 0, none⟩)] 75 (0, 0)) := (hE.other vb hvh.1 hvh.2).trans HVB.out
   have hO3l : (ints O3).length ≤ 1000 := by have := hgood j; rw [← HO3.out] at this; rw [ints_len]; omega
   show Code.wpIn _ _ _ (Code.region 14 _ _) _ _ _
   refine enter_order _ rfl _ hfn nn [] _ _ WE wb vb i w.heap.size (fun i => i ∉ ks) OV3 _ (ints O3) [(12, .string x.f5), (41, .slice (some adA) l.length c), (42, .int .i64 (l.length : Nat)), (43, .int .i64 (j : Nat))] rfl hf2 (cell_of hvbE) hblkE rfl ⟨_, hvbE⟩ hrE (fun k hk hm => by have := (hks k hm).2.2.2; rw [hE.size] at hk; omega) (by rw [hE.size]; have := HBV.out.size; omega) hO3l fun a3 W3 hf3 hA => ?_
   have hst3 := RSt.enter (W1 := W1) (m := m) (s := x.f5) ⟨⟨HBV.out, HVB.out, OV3, hwa, HRR.out⟩, HKP.out, hsz⟩ hwa (by rw [HAT.out]; rfl) hE hrE hA hks hmaps hlow
   have HF := hf3.sub (l' := [(7, .pointer (some ⟨vb, 0, none⟩)), (41, .slice (some adA) l.length c), (42, .int .i64 (l.length : Nat)), (43, .int .i64 (j : Nat))]) ⟨rfl, rfl, rfl, rfl, trivial⟩
   have HST3 := Aside0.mk hst3
   clear hst3 hA hf3 hf2 hE hrE hblkE hvbE hO3l nb hvh hwa
   show Code.wpIn _ _ _ (Code.region 15 _ _) _ _ _
   refine wpIn_region_k hfn rfl hC HF fun K hK => ?_
   iterate 2 (refine OpsK.step rfl rfl rfl ?_; go_simp)
   refine OpsK.nil (hK _ _ fun a' hf' => ?_)
   clear hK K HF
   rw [HWR.out] at hf'
   have HF : Fr 92 [] [(7, .pointer (some ⟨vb, 0, none⟩)), (41, .slice (some adA) l.length c), (42, .int .i64 (l.length : Nat)), (43, .int .i64 ((j + 1 : Nat) : Int))] a' := hf'.sub ⟨rfl, rfl, rfl, rfl, trivial⟩
   clear hf'
   refine ⟨⟨j + 1, by omega, HF, by rw [HNE.out]; exact HST3.out⟩, ?_⟩
   rw [HF.tmp (k := 43) rfl]
   simp only [intOf]
   omega
 ·obtain rfl : j = l.length := by omega
  have hnlt : ¬ ((l.length : Nat) : Int) < ((l.length : Nat) : Int) := by omega
  have HST := Aside0.mk hst
  clear hst
  refine wpIn_seq ?_
  refine wpIn_region_k hfn rfl hC HF fun K hK => ?_
  refine OpsK.step rfl rfl rfl ?_
  go_simp
  refine OpsK.nil (hK _ _ fun a' hf' => ?_)
  clear hK K HF
  have HF : Fr 92 [] [(7, .pointer (some ⟨vb, 0, none⟩)), (41, .slice (some adA) l.length c), (42, .int .i64 (l.length : Nat)), (43, .int .i64 (l.length : Nat)), (44, .bool false)] a' := hf'.sub ⟨rfl, rfl, rfl, rfl, rfl, trivial⟩
  clear hf'
  refine wpIn_seq (wpIn_cond_false (HF.tmp rfl) (wpIn_exit ?_))
  have := HST.out
  rw [List.take_length] at this
  exact hQ _ _ this
end
end Go.Proofs.YtlhkeohcickiaaaGreatDoor.E

