/- Part 34 of 36 of the proof of ProtestProofs: lemmas, without conditions. -/
import Derived.Test.YtlhkeohcickiaaaGreatDoorKP14
import Derived.Test.YtlhkeohcickiaaaGreatDoorKP17
import Derived.Test.YtlhkeohcickiaaaGreatDoorKP18
import Derived.Test.YtlhkeohcickiaaaGreatDoorKP30
import Derived.Test.YtlhkeohcickiaaaGreatDoorKP33
import Derived.Test.YtlhkeohcickiaaaGreatDoorKP29
set_option linter.all false
namespace Go.Proofs.YtlhkeohcickiaaaGreatDoor.E
open Go.RowKit Go.Proofs.YtlhkeohcickiaaaGreatDoorW.PrintWords Go.Proofs.YtlhkeohcickiaaaGreatDoorW.PrintLast Go.Proofs.YtlhkeohcickiaaaGreatDoorW.PrintMore
section
attribute [local go_sem] max2_int min2_int max_two min_two max_three min_three max_four min_four   -- for this text's walks alone
attribute [local go_sem] Go.Proofs.YtlhkeohcickiaaaGreatDoor.H.leq_str Go.Proofs.YtlhkeohcickiaaaGreatDoor.H.gtr_str Go.Proofs.YtlhkeohcickiaaaGreatDoor.H.geq_str
attribute [local go_sem] field80_0 field80_1
mutual
def besomref09_Proves.l0 : Nat → List (S25) → Int → List Int → ByteArray → List ByteArray → List ByteArray → Int → Option (Bool × Int × Int)
 | 0, _, _, _, _, _, _, _ => none
 | k + 1, x0, x1, x3, x4, x14, x15, x16 => if x16 < (x3.length : Int) then (if 0 ≤ x16 then (if 0 ≤ (rd x3 x16) then (if (rd x3 x16) < (x0.length : Int) then ((besomref09_Stands.f ((rd_T25 x0 (rd x3 x16)).f0) ((rd_T25 x0 (rd x3 x16)).f1) ((rd_T25 x0 (rd x3 x16)).f2) ((rd_T25 x0 (rd x3 x16)).f3) ((rd_T25 x0 (rd x3 x16)).f4) ((rd_T25 x0 (rd x3 x16)).f5) x1).bind fun t382 => (besomref09_Proves.l1 k x0 x1 x3 x4 x14 x15 x16 t382 0 ((rd_T25 x0 (rd x3 x16)).f0) ((rd_T25 x0 (rd x3 x16)).f1) ((rd_T25 x0 (rd x3 x16)).f2) ((rd_T25 x0 (rd x3 x16)).f3) ((rd_T25 x0 (rd x3 x16)).f4) ((rd_T25 x0 (rd x3 x16)).f5))) else (none)) else (none)) else (none)) else ((besomref09_Has.f k x15 x4).bind fun t378 => (some (t378, (-1), 0)))
def besomref09_Proves.l1 : Nat → List (S25) → Int → List Int → ByteArray → List ByteArray → List ByteArray → Int → Bool → Int → ByteArray → Int → Int → List ByteArray → List ByteArray → ByteArray → Option (Bool × Int × Int)
 | 0, _, _, _, _, _, _, _, _, _, _, _, _, _, _, _ => none
 | k + 1, x0, x1, x3, x4, x14, x15, x16, x18, x19, x382000, x382001, x382002, x382003, x382004, x382005 => if x19 < (x382003.length : Int) then (if x18 = true then (if 0 ≤ x19 then ((besomref09_Has.f k x15 (rdOf ByteArray.empty x382003 x19)).bind fun t384 => (besomref09_Proves.l1 k x0 x1 x3 x4 x14 x15 x16 t384 (wrap64 (x19 + 1)) x382000 x382001 x382002 x382003 x382004 x382005)) else (none)) else (besomref09_Proves.l1 k x0 x1 x3 x4 x14 x15 x16 false (wrap64 (x19 + 1)) x382000 x382001 x382002 x382003 x382004 x382005)) else (besomref09_Proves.l2 k x0 x1 x3 x4 x14 x15 x16 x18 0 x382000 x382001 x382002 x382003 x382004 x382005)
def besomref09_Proves.l2 : Nat → List (S25) → Int → List Int → ByteArray → List ByteArray → List ByteArray → Int → Bool → Int → ByteArray → Int → Int → List ByteArray → List ByteArray → ByteArray → Option (Bool × Int × Int)
 | 0, _, _, _, _, _, _, _, _, _, _, _, _, _, _, _ => none
 | k + 1, x0, x1, x3, x4, x14, x15, x16, x18, x20, x382000, x382001, x382002, x382003, x382004, x382005 => if x20 < (x382004.length : Int) then (if x18 = true then (if 0 ≤ x20 then ((besomref09_Has.f k x14 (rdOf ByteArray.empty x382004 x20)).bind fun t386 => (besomref09_Proves.l2 k x0 x1 x3 x4 x14 x15 x16 (!t386) (wrap64 (x20 + 1)) x382000 x382001 x382002 x382003 x382004 x382005)) else (none)) else (besomref09_Proves.l2 k x0 x1 x3 x4 x14 x15 x16 false (wrap64 (x20 + 1)) x382000 x382001 x382002 x382003 x382004 x382005)) else (if x18 = true then (if x15.length < 8796093022208 then (besomref09_Proves.l0 k x0 x1 x3 x4 x14 (x15 ++ [x382005]) (wrap64 (x16 + 1))) else (none)) else (some (false, x16, 0)))
end
def besomref09_Proves.f (k : Nat) (l0 : List (S25)) (a1 : Int) (l2 : List ByteArray) (l3 : List Int) (a4 : ByteArray) : Option (Bool × Int × Int) := (besomref09_asked.f k l0 a1 l2).bind fun t363 => (if t363 = 0 then ((besomref09_Name.f k a4).bind fun t364 => (if t364 = true then ((besomref09_indices.f k l0 l3).bind fun t365 => (if t365 = true then ((besomref09_make1.f l0 a1 l2).bind fun bt366 => ((some (([] : List ByteArray) : List ByteArray)).bind fun y372 => (if y372.length + l2.length < 8796093022208 then (besomref09_Proves.l0 k l0 a1 l3 a4 bt366.1 (y372 ++ l2) 0) else (none)))) else (some (false, (-1), 4)))) else (some (false, (-1), 2)))) else (some (false, (-1), t363)))
set_option maxHeartbeats 8000000 in
set_option maxRecDepth 100000 in
theorem besomref09_Proves.calls (k : Nat) (A0 : Option Addr) (c0 : Nat) (l0 : List (S25)) (a1 : Int) (A2 : Option Addr) (c2 : Nat) (l2 : List ByteArray) (A3 : Option Addr) (c3 : Nat) (l3 : List Int) (a4 : ByteArray) (r1 : Bool) (r2 : Int) (r3 : Int) (w : World) (hr0 : Kd.C k25 w A0 l0.length l0) (hc0 : l0.length ≤ c0) (hr2 : Kd.C Kd.string w A2 l2.length l2) (hc2 : l2.length ≤ c2) (hr3 : Kd.C (Kd.int .i64) w A3 l3.length l3) (hc3 : l3.length ≤ c3) (h : besomref09_Proves.f k l0 a1 l2 l3 a4 = some (r1, r2, r3)) :
  Calls Tryz.prog 33 #[.slice A0 l0.length c0, .int .i64 a1, .slice A2 l2.length c2, .slice A3 l3.length c3, .string a4] w fun e w' => e = .returned (.tuple #[.bool r1, .int .i64 r2, .int .i64 r3]) ∧ Below w.heap.size w w' := by
 have hu25 := Tryz.underlying25
 have HR0 := Aside0.mk hr0
 have HC0 := Aside0.mk hc0
 clear hr0 hc0
 have HR2 := Aside0.mk hr2
 have HC2 := Aside0.mk hc2
 clear hr2 hc2
 have HR3 := Aside0.mk hr3
 have HC3 := Aside0.mk hc3
 clear hr3 hc3
 have HB := Aside0.mk (Below.refl w.heap.size w)
 have H : ((besomref09_asked.f k l0 a1 l2).bind fun t363 => (if t363 = 0 then ((besomref09_Name.f k a4).bind fun t364 => (if t364 = true then ((besomref09_indices.f k l0 l3).bind fun t365 => (if t365 = true then ((besomref09_make1.f l0 a1 l2).bind fun bt366 => ((some (([] : List ByteArray) : List ByteArray)).bind fun y372 => (if y372.length + l2.length < 8796093022208 then (besomref09_Proves.l0 k l0 a1 l3 a4 bt366.1 (y372 ++ l2) 0) else (none)))) else (some (false, (-1), 4)))) else (some (false, (-1), 2)))) else (some (false, (-1), t363)))) = some (r1, r2, r3) := h
 clear h
 replace H := Option.bind_eq_some_iff.mp H
 obtain ⟨t363, A60, H⟩ := H
 replace H : (if t363 = 0 then ((besomref09_Name.f k a4).bind fun t364 => (if t364 = true then ((besomref09_indices.f k l0 l3).bind fun t365 => (if t365 = true then ((besomref09_make1.f l0 a1 l2).bind fun bt366 => ((some (([] : List ByteArray) : List ByteArray)).bind fun y372 => (if y372.length + l2.length < 8796093022208 then (besomref09_Proves.l0 k l0 a1 l3 a4 bt366.1 (y372 ++ l2) 0) else (none)))) else (some (false, (-1), 4)))) else (some (false, (-1), 2)))) else (some (false, (-1), t363))) = some (r1, r2, r3) := H
 have A6 := Aside0.mk A60
 clear A60
 by_cases c7 : t363 = 0
 ·rw [if_pos c7] at H
  have c7b0 : (t363 == 0) = true := beq_iff_eq.mpr c7
  have c7b1 : (t363 != 0) = false := bne_eq_false_iff_eq.mpr c7
  clear c7
  replace H := Option.bind_eq_some_iff.mp H
  obtain ⟨t364, A80, H⟩ := H
  replace H : (if t364 = true then ((besomref09_indices.f k l0 l3).bind fun t365 => (if t365 = true then ((besomref09_make1.f l0 a1 l2).bind fun bt366 => ((some (([] : List ByteArray) : List ByteArray)).bind fun y372 => (if y372.length + l2.length < 8796093022208 then (besomref09_Proves.l0 k l0 a1 l3 a4 bt366.1 (y372 ++ l2) 0) else (none)))) else (some (false, (-1), 4)))) else (some (false, (-1), 2))) = some (r1, r2, r3) := H
  have A8 := Aside0.mk A80
  clear A80
  by_cases c9 : t364 = true
  ·subst c9
   have H1 : ((besomref09_indices.f k l0 l3).bind fun t365 => (if t365 = true then ((besomref09_make1.f l0 a1 l2).bind fun bt366 => ((some (([] : List ByteArray) : List ByteArray)).bind fun y372 => (if y372.length + l2.length < 8796093022208 then (besomref09_Proves.l0 k l0 a1 l3 a4 bt366.1 (y372 ++ l2) 0) else (none)))) else (some (false, (-1), 4)))) = some (r1, r2, r3) := by rw [if_pos rfl] at H; exact H
   clear H
   have H := H1
   clear H1
   replace H := Option.bind_eq_some_iff.mp H
   obtain ⟨t365, A100, H⟩ := H
   replace H : (if t365 = true then ((besomref09_make1.f l0 a1 l2).bind fun bt366 => ((some (([] : List ByteArray) : List ByteArray)).bind fun y372 => (if y372.length + l2.length < 8796093022208 then (besomref09_Proves.l0 k l0 a1 l3 a4 bt366.1 (y372 ++ l2) 0) else (none)))) else (some (false, (-1), 4))) = some (r1, r2, r3) := H
   have A10 := Aside0.mk A100
   clear A100
   by_cases c11 : t365 = true
   ·subst c11
    have H1 : ((besomref09_make1.f l0 a1 l2).bind fun bt366 => ((some (([] : List ByteArray) : List ByteArray)).bind fun y372 => (if y372.length + l2.length < 8796093022208 then (besomref09_Proves.l0 k l0 a1 l3 a4 bt366.1 (y372 ++ l2) 0) else (none)))) = some (r1, r2, r3) := by rw [if_pos rfl] at H; exact H
    clear H
    have H := H1
    clear H1
    replace H := Option.bind_eq_some_iff.mp H
    obtain ⟨⟨t366, t369⟩, A120, H⟩ := H
    replace H : ((some (([] : List ByteArray) : List ByteArray)).bind fun y372 => (if y372.length + l2.length < 8796093022208 then (besomref09_Proves.l0 k l0 a1 l3 a4 t366 (y372 ++ l2) 0) else (none))) = some (r1, r2, r3) := H
    have A12 := Aside0.mk A120
    clear A120
    obtain ⟨y372, hy372⟩ : ∃ y_ : List ByteArray, y_ = (([] : List ByteArray)) := ⟨_, rfl⟩
    replace H : (if y372.length + l2.length < 8796093022208 then (besomref09_Proves.l0 k l0 a1 l3 a4 t366 (y372 ++ l2) 0) else (none)) = some (r1, r2, r3) := by first | (rw [hy372]; with_reducible exact H) | (have H2_ := (Option.bind_some _ _).symm.trans H; rw [hy372]; with_reducible exact H2_) | (have H2_ := (Option.bind_some _ _).symm.trans H; with_reducible exact H2_) | with_reducible exact H | (rw [hy372]; exact H) | exact H
    have Ny372 := Aside0.mk hy372
    clear hy372
    by_cases c13 : y372.length + l2.length < 8796093022208
    ·rw [if_pos c13] at H
     have LMc13 := Aside0.mk c13
     clear c13
     obtain ⟨y375, hy375⟩ : ∃ y_ : List ByteArray, y_ = (y372 ++ l2) := ⟨_, rfl⟩
     replace H : (besomref09_Proves.l0 k l0 a1 l3 a4 t366 y375 0) = some (r1, r2, r3) := by first | (rw [hy375]; with_reducible exact H) | (have H2_ := (Option.bind_some _ _).symm.trans H; rw [hy375]; with_reducible exact H2_) | (have H2_ := (Option.bind_some _ _).symm.trans H; with_reducible exact H2_) | with_reducible exact H | (rw [hy375]; exact H) | exact H
     have Ny375 := Aside0.mk hy375
     clear hy375
     have H' := Aside0.mk H
     clear H
     go_enter Tryz.func33, Tryz.ntmps33
     go_wp2_with (first | ((with_reducible refine gate_callee (f := 54) rfl ?_); refine goesL_ (some 24) rfl rfl Tryz.func54 (by kernel_rfl) rfl #[.slice A0 l0.length c0, .int .i64 a1, .slice A2 l2.length c2] rfl (by (try simp only [List.map_toArray, List.map_cons, List.map_nil]); first | done | rfl | (simp only [List.length_drop, List.length_take]; rfl)) ?_; (with_reducible refine (besomref09_asked.calls k _ _ l0 a1 _ _ l2 t363 _ ?side1 ?side2 ?side3 ?side4 A6.out).mono ?_); (case side1 => repeat (first | exact HR0.out | (with_reducible refine Kd.C_alloc ?_ _) | (with_reducible refine Kd.C_drewN ?_ _) | (with_reducible refine Kd.C_drew ?_))); (case side2 => exact HC0.out); (case side3 => repeat (first | exact HR2.out | (with_reducible refine Kd.C_alloc ?_ _) | (with_reducible refine Kd.C_drewN ?_ _) | (with_reducible refine Kd.C_drew ?_))); (case side4 => exact HC2.out); rintro e w14 ⟨rfl, hb⟩; refine ⟨_, rfl, ?_⟩; have n0_ := Aside0.mk (below_step (by repeat (first | (with_reducible first | exact HB.out | apply below_alloc | apply pw_below_drewN | apply below_drew1) | exact HB.out)) hb); clear HB; have HB := n0_; clear n0_; (try clear hb); (try clear hb2); (try clear hk); (try clear hi)) | ((with_reducible refine gate_callee (f := 44) rfl ?_); refine goesL_ (some 29) rfl rfl Tryz.func44 (by kernel_rfl) rfl #[.string a4] rfl (by (try simp only [List.map_toArray, List.map_cons, List.map_nil]); first | done | rfl | (simp only [List.length_drop, List.length_take]; rfl)) ?_; (with_reducible refine (besomref09_Name.calls k a4 true _ A8.out).mono ?_); rintro e w' ⟨rfl, ⟨nd, rfl⟩⟩; refine ⟨_, rfl, ?_⟩) | ((with_reducible refine gate_callee (f := 63) rfl ?_); refine goesL_ (some 33) rfl rfl Tryz.func63 (by kernel_rfl) rfl #[.slice A0 l0.length c0, .slice A3 l3.length c3] rfl (by (try simp only [List.map_toArray, List.map_cons, List.map_nil]); first | done | rfl | (simp only [List.length_drop, List.length_take]; rfl)) ?_; (with_reducible refine (besomref09_indices.calls k _ _ l0 _ _ l3 true _ ?side1 ?side2 ?side3 ?side4 A10.out).mono ?_); (case side1 => repeat (first | exact (Kd.C_below HR0.out (by repeat (first | (with_reducible first | exact HB.out | apply below_alloc | apply pw_below_drewN | apply below_drew1) | exact HB.out))) | (with_reducible refine Kd.C_alloc ?_ _) | (with_reducible refine Kd.C_drewN ?_ _) | (with_reducible refine Kd.C_drew ?_))); (case side2 => exact HC0.out); (case side3 => repeat (first | exact (Kd.C_below HR3.out (by repeat (first | (with_reducible first | exact HB.out | apply below_alloc | apply pw_below_drewN | apply below_drew1) | exact HB.out))) | (with_reducible refine Kd.C_alloc ?_ _) | (with_reducible refine Kd.C_drewN ?_ _) | (with_reducible refine Kd.C_drew ?_))); (case side4 => exact HC3.out); rintro e w' ⟨rfl, ⟨nd, rfl⟩⟩; refine ⟨_, rfl, ?_⟩) | ((with_reducible refine gate_callee (f := 55) rfl ?_); refine goesL_ (some 38) rfl rfl Tryz.func55 (by kernel_rfl) rfl #[.slice A0 l0.length c0, .int .i64 a1, .slice A2 l2.length c2] rfl (by (try simp only [List.map_toArray, List.map_cons, List.map_nil]); first | done | rfl | (simp only [List.length_drop, List.length_take]; rfl)) ?_; (with_reducible refine (besomref09_make1.calls _ _ l0 a1 _ _ l2 t366 t369 _ ?side1 ?side2 ?side3 ?side4 A12.out).mono ?_); (case side1 => repeat (first | exact (Kd.C_below HR0.out (by repeat (first | (with_reducible first | exact HB.out | apply below_alloc | apply pw_below_drewN | apply below_drew1) | exact HB.out))) | (with_reducible refine Kd.C_alloc ?_ _) | (with_reducible refine Kd.C_drewN ?_ _) | (with_reducible refine Kd.C_drew ?_))); (case side2 => exact HC0.out); (case side3 => repeat (first | exact (Kd.C_below HR2.out (by repeat (first | (with_reducible first | exact HB.out | apply below_alloc | apply pw_below_drewN | apply below_drew1) | exact HB.out))) | (with_reducible refine Kd.C_alloc ?_ _) | (with_reducible refine Kd.C_drewN ?_ _) | (with_reducible refine Kd.C_drew ?_))); (case side4 => exact HC2.out); rintro e w15 ⟨v367, v370, rfl, ho0, ho1, hb⟩; refine ⟨_, rfl, ?_⟩; have n0_ := Aside0.mk (Kd.R_lower ho0 (below_size (by repeat (first | (with_reducible first | exact HB.out | apply below_alloc | apply pw_below_drewN | apply below_drew1) | exact HB.out)))); have n1_ := Aside0.mk (Kd.R_lower ho1 (below_size (by repeat (first | (with_reducible first | exact HB.out | apply below_alloc | apply pw_below_drewN | apply below_drew1) | exact HB.out)))); have n2_ := Aside0.mk (below_step (by repeat (first | (with_reducible first | exact HB.out | apply below_alloc | apply pw_below_drewN | apply below_drew1) | exact HB.out)) hb); clear HB; have HO368 := n0_; have HO371 := n1_; have HB := n2_; clear n0_ n1_ n2_; (try clear hb); (try clear hb2); (try clear hk); (try clear hi); (try clear ho0); (try clear ho1)) | ((with_reducible refine gate_dst (N := 40) rfl ?_); refine Kd.R_lit Kd.string _ 9 ?hg (N := 40) ?hd (xs := ([] : List ByteArray)) (inner := []) (ok := fun _ => True) (okp := fun _ => True) ?hr ?hp (fun _ hk => hk) trivial (Below.refl _ _) (Nat.le_refl _) (by simp) ?_; (case hd => rfl); (case hg => rfl); (case hr => first | (go_simp; done) | (go_simp; rfl)); (case hp => exact (Reps.none _ _)); intro v373 w16 ho17 hb hg_ hnew_; clear hg_ hnew_; (first | rw [← Ny372.out] at ho17 | (simp only [Int.reduceToNat] at ho17; rw [← Ny372.out] at ho17)); have n0_ := Aside0.mk (Kd.R_elder' (by (with_reducible repeat (first | apply Kd.R_alloc | apply Kd.R_drewN | apply Kd.R_drew)); exact HO368.out) (Kd.R_base ho17) hb); have n1_ := Aside0.mk (Kd.R_below (by (with_reducible repeat (first | apply Kd.R_alloc | apply Kd.R_drewN | apply Kd.R_drew)); exact HO371.out) hb); have n2_ := Aside0.mk (Kd.R_lower (Kd.R_new' ho17 (Kd.R_lt (by (with_reducible repeat (first | apply Kd.R_alloc | apply Kd.R_drewN | apply Kd.R_drew)); exact HO368.out))) (below_size (by repeat (first | (with_reducible first | exact HB.out | apply below_alloc | apply pw_below_drewN | apply below_drew1) | exact HB.out)))); have n3_ := Aside0.mk (below_step (by repeat (first | (with_reducible first | exact HB.out | apply below_alloc | apply pw_below_drewN | apply below_drew1) | exact HB.out)) hb); clear HO368; clear HO371; clear HB; have HO368 := n0_; have HO371 := n1_; have HO374 := n2_; have HB := n3_; clear n0_ n1_ n2_ n3_; clear hb ho17) | ((with_reducible refine gate_builtin (b := .append) (xs := #[.tmp 40, .tmp 41]) rfl ?_); at_builtin; refine Kd.R_append_rows Kd.string (w0 := w) w.heap.size rfl (.tmp 40) (.tmp 41) 23 9 (.string ⟨#[]⟩) 16 rfl Tryz.underlying23 info9 rfl (by decide) (by omega) v373 y372 l2 _ _ _ (fun k_ => some k_ ≠ (v367 : Value).ownBlock) (fun _ => False) rfl rfl ?aO ?aR (fun _ _ h => h) (fun _ h => h.elim) ?aF ?aB ?aS ?aL ?_; (case aR => repeat (first | exact (Kd.C_below HR2.out HB.out) | (with_reducible refine Kd.C_alloc ?_ _) | (with_reducible refine Kd.C_drewN ?_ _) | (with_reducible refine Kd.C_drew ?_))); (case aB => exact (by repeat (first | (with_reducible first | exact HB.out | apply below_alloc | apply pw_below_drewN | apply below_drew1) | exact HB.out))); (case aF => exact (fun k_ hk => Kd.fresh' (Kd.R_lt (by (with_reducible repeat (first | apply Kd.R_alloc | apply Kd.R_drewN | apply Kd.R_drew)); exact HO368.out)) k_ hk)); (case aO => exact (by (with_reducible repeat (first | apply Kd.R_alloc | apply Kd.R_drewN | apply Kd.R_drew)); exact Kd.R_mono HO374.out (fun _ hk => hk.2))); (case aS => exact (below_size (by repeat (first | (with_reducible first | exact HB.out | apply below_alloc | apply pw_below_drewN | apply below_drew1) | exact HB.out)))); (case aL => have := LMc13.out; omega); intro v376 w18 ho hb hg hat; rw [← Ny375.out] at ho; have n0_ := Aside0.mk (Kd.R_after (ok := (fun _ => True)) (by (with_reducible repeat (first | apply Kd.R_alloc | apply Kd.R_drewN | apply Kd.R_drew)); exact HO368.out) hg hat); have n1_ := Aside0.mk (Kd.R_over' (by (with_reducible repeat (first | apply Kd.R_alloc | apply Kd.R_drewN | apply Kd.R_drew)); exact HO371.out) (Kd.R_typed (by (with_reducible repeat (first | apply Kd.R_alloc | apply Kd.R_drewN | apply Kd.R_drew)); exact HO374.out)) (by decide) hg); have n2_ := Aside0.mk (hb); have n3_ := Aside0.mk (ho); clear HO368; clear HO371; clear HB; clear HO374; have HO368 := n0_; have HO371 := n1_; have HB := n2_; have HO377 := n3_; clear n0_ n1_ n2_ n3_; clear ho hb hg hat))
     go_loopg [15, 16] k (fun kq v15 v16 w' => ∃ (x15_1 : List ByteArray) (x16_1 : Int), v16 = .int .i64 x16_1 ∧ Aside0 (besomref09_Proves.l0 kq l0 a1 l3 a4 t366 x15_1 x16_1 = some (r1, r2, r3)) ∧ Aside0 (kq ≤ k) ∧ Aside0 (Kd.R Kd.string 9 w' w.heap.size (fun k_ => some k_ ≠ (v15 : Value).ownBlock) v367 t366) ∧ Aside0 (Kd.R Kd.string 9 w' w.heap.size (fun k_ => some k_ ≠ (v367 : Value).ownBlock) v15 x15_1) ∧ Aside0 (Below w.heap.size w w'))
     case atStart => exact ⟨(y375), (0), (by first | rfl | (simp; done) | (simp [*]; done)), H', ⟨Nat.le_refl _⟩, ⟨by (with_reducible repeat (first | apply Kd.R_alloc | apply Kd.R_drewN | apply Kd.R_drew)); exact Kd.R_mono HO368.out (fun _ hk => hk.2)⟩, ⟨by (with_reducible repeat (first | apply Kd.R_alloc | apply Kd.R_drewN | apply Kd.R_drew)); exact HO377.out⟩, ⟨by repeat (first | (with_reducible first | exact HB.out | apply below_alloc | apply pw_below_drewN | apply below_drew1) | exact HB.out)⟩⟩
     case round =>
      clear H'
      try clear c1
      try clear c2
      try clear p2
      try clear c3
      try clear c4
      try clear c5
      try clear c6
      try clear c7
      try clear c7b0
      try clear c7b1
      try clear c9
      try clear c11
      try clear c13
      obtain ⟨x15_1, x16_1, rfl, HA, HK1, HO_14, HO_15, HB⟩ := hrel
      cases gk with
      | zero => exact absurd HA.out (by simp [besomref09_Proves.l0])
      | succ k1 =>
       have H := HA.out
       clear HA
       simp only [besomref09_Proves.l0] at H
       by_cases c19 : x16_1 < (l3.length : Int)
       ·rw [if_pos c19] at H
        have c19b0 : decide (x16_1 < (l3.length : Int)) = true := decide_eq_true c19
        clear c19
        by_cases c20 : 0 ≤ x16_1
        ·rw [if_pos c20] at H
         have c20b0 : decide (0 ≤ x16_1) = true := decide_eq_true c20
         clear c20
         by_cases c21 : 0 ≤ (rd l3 x16_1)
         ·rw [if_pos c21] at H
          have c21b0 : decide (0 ≤ (rd l3 x16_1)) = true := decide_eq_true c21
          clear c21
          by_cases c22 : (rd l3 x16_1) < (l0.length : Int)
          ·rw [if_pos c22] at H
           have c22b0 : decide ((rd l3 x16_1) < (l0.length : Int)) = true := decide_eq_true c22
           clear c22
           replace H := Option.bind_eq_some_iff.mp H
           obtain ⟨t382, A230, H⟩ := H
           replace H : (besomref09_Proves.l1 k1 l0 a1 l3 a4 t366 x15_1 x16_1 t382 0 ((rd_T25 l0 (rd l3 x16_1)).f0) ((rd_T25 l0 (rd l3 x16_1)).f1) ((rd_T25 l0 (rd l3 x16_1)).f2) ((rd_T25 l0 (rd l3 x16_1)).f3) ((rd_T25 l0 (rd l3 x16_1)).f4) ((rd_T25 l0 (rd l3 x16_1)).f5)) = some (r1, r2, r3) := H
           have A23 := Aside0.mk A230
           clear A230
           have H' := Aside0.mk H
           clear H
           have p379 : 0 ≤ (x16_1 : Int) := of_decide_eq_true (by first | (with_reducible assumption) | assumption)
           have q379 : x16_1 < (l3.length : Int) := of_decide_eq_true (by first | (with_reducible assumption) | assumption)
           obtain ⟨ad379, e379, hx379_0⟩ := Kd.at_int HR3.out x16_1 p379 q379
           cases e379
           replace hx379_0 := (HB.out.cell (World.block_lt_of_cell? w _ hx379_0)).trans hx379_0
           replace p379 := eq_true p379
           replace q379 := eq_true q379
           have p380 : 0 ≤ ((rd l3 x16_1) : Int) := of_decide_eq_true (by first | (with_reducible assumption) | assumption)
           have q380 : (rd l3 x16_1) < (l0.length : Int) := of_decide_eq_true (by first | (with_reducible assumption) | assumption)
           obtain ⟨ad380, A380_3, c380_3, A380_4, c380_4, e380, hx380_0, hx380_1, hx380_2, hx380_3, hx380_4, hx380_5, hl380_3, hi380_3, hl380_4, hi380_4⟩ := at_T25 HR0.out (rd l3 x16_1) p380 q380
           cases e380
           replace hx380_0 := (HB.out.cell (World.block_lt_of_cell? w _ hx380_0)).trans hx380_0
           replace hx380_1 := (HB.out.cell (World.block_lt_of_cell? w _ hx380_1)).trans hx380_1
           replace hx380_2 := (HB.out.cell (World.block_lt_of_cell? w _ hx380_2)).trans hx380_2
           replace hx380_3 := (HB.out.cell (World.block_lt_of_cell? w _ hx380_3)).trans hx380_3
           replace hx380_4 := (HB.out.cell (World.block_lt_of_cell? w _ hx380_4)).trans hx380_4
           replace hx380_5 := (HB.out.cell (World.block_lt_of_cell? w _ hx380_5)).trans hx380_5
           have HR380_3 := Aside0.mk hi380_3
           have HC380_3 := Aside0.mk hl380_3
           clear hi380_3 hl380_3
           have HR380_4 := Aside0.mk hi380_4
           have HC380_4 := Aside0.mk hl380_4
           clear hi380_4 hl380_4
           replace p380 := eq_true p380
           replace q380 := eq_true q380
           go_wp2_with (first | ((with_reducible refine gate_dst (N := 17) rfl ?_); refine box_event ?hg (N := 17) ?hd (cs := #[.string (⟨#[]⟩ : ByteArray), .int .i64 0, .int .i64 0, .slice none 0 0, .slice none 0 0, .string (⟨#[]⟩ : ByteArray)]) (t := 25) ?hr ?_; (case hd => rfl); (case hg => rfl); (case hr => first | (go_simp; done) | (go_simp; rfl)); intro gb381 hg w24 hbox hb; have n0_ := Aside0.mk (Kd.R_below (by (with_reducible repeat (first | apply Kd.R_alloc | apply Kd.R_drewN | apply Kd.R_drew)); exact HO_14.out) hb); have n1_ := Aside0.mk (Kd.R_below (by (with_reducible repeat (first | apply Kd.R_alloc | apply Kd.R_drewN | apply Kd.R_drew)); exact HO_15.out) hb); have n2_ := Aside0.mk (below_step (by repeat (first | (with_reducible first | exact HB.out | apply below_alloc | apply pw_below_drewN | apply below_drew1) | exact HB.out)) hb); have n3_ := Aside0.mk (hbox); have n4_ := Aside0.mk ((by rw [hg]; exact (below_size (by repeat (first | (with_reducible first | exact HB.out | apply below_alloc | apply pw_below_drewN | apply below_drew1) | exact HB.out))) : w.heap.size ≤ gb381)); have n5_ := Aside0.mk ((by rw [hg]; exact (below_size (by repeat (first | (with_reducible first | exact HB.out | apply below_alloc | apply pw_below_drewN | apply below_drew1) | exact HB.out))) : w.heap.size ≤ gb381)); clear HO_14; clear HO_15; clear HB; have HO_14 := n0_; have HO_15 := n1_; have HB := n2_; have BK381 := n3_; have GW381 := n4_; have GE381 := n5_; clear n0_ n1_ n2_ n3_ n4_ n5_; clear hb hbox hg; have hcz25_0 : w24.cell? ⟨gb381, 0, none⟩ = some (.string (⟨#[]⟩ : ByteArray)) := (blk_cell BK381.out 0).trans rfl; have hcz25_1 : w24.cell? ⟨gb381, 1, none⟩ = some (.int .i64 0) := (blk_cell BK381.out 1).trans rfl; have hcz25_2 : w24.cell? ⟨gb381, 2, none⟩ = some (.int .i64 0) := (blk_cell BK381.out 2).trans rfl; have hcz25_3 : w24.cell? ⟨gb381, 3, none⟩ = some (.slice none 0 0) := (blk_cell BK381.out 3).trans rfl; have hcz25_4 : w24.cell? ⟨gb381, 4, none⟩ = some (.slice none 0 0) := (blk_cell BK381.out 4).trans rfl; have hcz25_5 : w24.cell? ⟨gb381, 5, none⟩ = some (.string (⟨#[]⟩ : ByteArray)) := (blk_cell BK381.out 5).trans rfl; have hfz25_0 := blk_frozen BK381.out 0; have hfz25_1 := blk_frozen BK381.out 1; have hfz25_2 := blk_frozen BK381.out 2; have hfz25_3 := blk_frozen BK381.out 3; have hfz25_4 := blk_frozen BK381.out 4; have hfz25_5 := blk_frozen BK381.out 5) | ((with_reducible refine gate_callee (f := 31) rfl ?_); refine goesL_ (some 58) rfl rfl Tryz.func31 (by kernel_rfl) rfl #[.agg #[.string ((rd_T25 l0 (rd l3 x16_1)).f0), .int .i64 ((rd_T25 l0 (rd l3 x16_1)).f1), .int .i64 ((rd_T25 l0 (rd l3 x16_1)).f2), .slice A380_3 ((rd_T25 l0 (rd l3 x16_1)).f3).length c380_3, .slice A380_4 ((rd_T25 l0 (rd l3 x16_1)).f4).length c380_4, .string ((rd_T25 l0 (rd l3 x16_1)).f5)], .int .i64 a1] rfl (by (try simp only [List.map_toArray, List.map_cons, List.map_nil]); first | done | rfl | (simp only [List.length_drop, List.length_take]; rfl)) ?_; (with_reducible refine (besomref09_Stands.calls ((rd_T25 l0 (rd l3 x16_1)).f0) ((rd_T25 l0 (rd l3 x16_1)).f1) ((rd_T25 l0 (rd l3 x16_1)).f2) _ _ ((rd_T25 l0 (rd l3 x16_1)).f3) _ _ ((rd_T25 l0 (rd l3 x16_1)).f4) ((rd_T25 l0 (rd l3 x16_1)).f5) a1 t382 _ ?side1 ?side2 ?side3 ?side4 A23.out).mono ?_); (case side1 => exact Kd.C_below HR380_3.out (by repeat (first | (with_reducible first | exact HB.out | apply below_alloc | apply pw_below_drewN | apply below_drew1 | refine below_set ?_ GE381.out) | exact HB.out))); (case side2 => exact HC380_3.out); (case side3 => exact Kd.C_below HR380_4.out (by repeat (first | (with_reducible first | exact HB.out | apply below_alloc | apply pw_below_drewN | apply below_drew1 | refine below_set ?_ GE381.out) | exact HB.out))); (case side4 => exact HC380_4.out); rintro e w26 ⟨rfl, hb⟩; refine ⟨_, rfl, ?_⟩; have n0_ := Aside0.mk (Kd.R_below (by (with_reducible repeat (first | apply Kd.R_alloc | apply Kd.R_drewN | apply Kd.R_drew)); exact (Kd.R_mono (Kd.R_far (p := ⟨gb381, 5, none⟩) (Kd.R_far (p := ⟨gb381, 4, none⟩) (Kd.R_far (p := ⟨gb381, 3, none⟩) (Kd.R_far (p := ⟨gb381, 2, none⟩) (Kd.R_far (p := ⟨gb381, 1, none⟩) (Kd.R_far (p := ⟨gb381, 0, none⟩) (Kd.R_types HO_14.out BK381.out (by decide)) (fun _ hk => hk.2) (.string ((rd_T25 l0 (rd l3 x16_1)).f0))) (fun _ hk => hk.2) (.int .i64 ((rd_T25 l0 (rd l3 x16_1)).f1))) (fun _ hk => hk.2) (.int .i64 ((rd_T25 l0 (rd l3 x16_1)).f2))) (fun _ hk => hk.2) (.slice A380_3 ((rd_T25 l0 (rd l3 x16_1)).f3).length c380_3)) (fun _ hk => hk.2) (.slice A380_4 ((rd_T25 l0 (rd l3 x16_1)).f4).length c380_4)) (fun _ hk => hk.2) (.string ((rd_T25 l0 (rd l3 x16_1)).f5))) (fun _ h_ => h_.1))) hb); have n1_ := Aside0.mk (Kd.R_below (by (with_reducible repeat (first | apply Kd.R_alloc | apply Kd.R_drewN | apply Kd.R_drew)); exact (Kd.R_mono (Kd.R_far (p := ⟨gb381, 5, none⟩) (Kd.R_far (p := ⟨gb381, 4, none⟩) (Kd.R_far (p := ⟨gb381, 3, none⟩) (Kd.R_far (p := ⟨gb381, 2, none⟩) (Kd.R_far (p := ⟨gb381, 1, none⟩) (Kd.R_far (p := ⟨gb381, 0, none⟩) (Kd.R_types HO_15.out BK381.out (by decide)) (fun _ hk => hk.2) (.string ((rd_T25 l0 (rd l3 x16_1)).f0))) (fun _ hk => hk.2) (.int .i64 ((rd_T25 l0 (rd l3 x16_1)).f1))) (fun _ hk => hk.2) (.int .i64 ((rd_T25 l0 (rd l3 x16_1)).f2))) (fun _ hk => hk.2) (.slice A380_3 ((rd_T25 l0 (rd l3 x16_1)).f3).length c380_3)) (fun _ hk => hk.2) (.slice A380_4 ((rd_T25 l0 (rd l3 x16_1)).f4).length c380_4)) (fun _ hk => hk.2) (.string ((rd_T25 l0 (rd l3 x16_1)).f5))) (fun _ h_ => h_.1))) hb); have n2_ := Aside0.mk (blk_below (g := gb381) (o := .cells #[.string ((rd_T25 l0 (rd l3 x16_1)).f0), .int .i64 ((rd_T25 l0 (rd l3 x16_1)).f1), .int .i64 ((rd_T25 l0 (rd l3 x16_1)).f2), .slice A380_3 ((rd_T25 l0 (rd l3 x16_1)).f3).length c380_3, .slice A380_4 ((rd_T25 l0 (rd l3 x16_1)).f4).length c380_4, .string ((rd_T25 l0 (rd l3 x16_1)).f5)] 25 (0, 0)) (by (with_reducible repeat (first | refine blk_drewN ?_ _ | refine blk_drew ?_ | refine blk_alloc ?_ _)); refine blk_put (cs := #[.string ((rd_T25 l0 (rd l3 x16_1)).f0), .int .i64 ((rd_T25 l0 (rd l3 x16_1)).f1), .int .i64 ((rd_T25 l0 (rd l3 x16_1)).f2), .slice A380_3 ((rd_T25 l0 (rd l3 x16_1)).f3).length c380_3, .slice A380_4 ((rd_T25 l0 (rd l3 x16_1)).f4).length c380_4, .string (⟨#[]⟩ : ByteArray)]) ?_ 5 _ rfl; (with_reducible repeat (first | refine blk_drewN ?_ _ | refine blk_drew ?_ | refine blk_alloc ?_ _)); refine blk_put (cs := #[.string ((rd_T25 l0 (rd l3 x16_1)).f0), .int .i64 ((rd_T25 l0 (rd l3 x16_1)).f1), .int .i64 ((rd_T25 l0 (rd l3 x16_1)).f2), .slice A380_3 ((rd_T25 l0 (rd l3 x16_1)).f3).length c380_3, .slice none 0 0, .string (⟨#[]⟩ : ByteArray)]) ?_ 4 _ rfl; (with_reducible repeat (first | refine blk_drewN ?_ _ | refine blk_drew ?_ | refine blk_alloc ?_ _)); refine blk_put (cs := #[.string ((rd_T25 l0 (rd l3 x16_1)).f0), .int .i64 ((rd_T25 l0 (rd l3 x16_1)).f1), .int .i64 ((rd_T25 l0 (rd l3 x16_1)).f2), .slice none 0 0, .slice none 0 0, .string (⟨#[]⟩ : ByteArray)]) ?_ 3 _ rfl; (with_reducible repeat (first | refine blk_drewN ?_ _ | refine blk_drew ?_ | refine blk_alloc ?_ _)); refine blk_put (cs := #[.string ((rd_T25 l0 (rd l3 x16_1)).f0), .int .i64 ((rd_T25 l0 (rd l3 x16_1)).f1), .int .i64 0, .slice none 0 0, .slice none 0 0, .string (⟨#[]⟩ : ByteArray)]) ?_ 2 _ rfl; (with_reducible repeat (first | refine blk_drewN ?_ _ | refine blk_drew ?_ | refine blk_alloc ?_ _)); refine blk_put (cs := #[.string ((rd_T25 l0 (rd l3 x16_1)).f0), .int .i64 0, .int .i64 0, .slice none 0 0, .slice none 0 0, .string (⟨#[]⟩ : ByteArray)]) ?_ 1 _ rfl; (with_reducible repeat (first | refine blk_drewN ?_ _ | refine blk_drew ?_ | refine blk_alloc ?_ _)); refine blk_put (cs := #[.string (⟨#[]⟩ : ByteArray), .int .i64 0, .int .i64 0, .slice none 0 0, .slice none 0 0, .string (⟨#[]⟩ : ByteArray)]) ?_ 0 _ rfl; (with_reducible repeat (first | refine blk_drewN ?_ _ | refine blk_drew ?_ | refine blk_alloc ?_ _)); exact BK381.out) hb); have n3_ := Aside0.mk (below_step (by repeat (first | (with_reducible first | exact HB.out | apply below_alloc | apply pw_below_drewN | apply below_drew1 | refine below_set ?_ GE381.out) | exact HB.out)) hb); clear HO_14; clear HO_15; clear BK381; clear HB; have HO_14 := n0_; have HO_15 := n1_; have BK381 := n2_; have HB := n3_; clear n0_ n1_ n2_ n3_; (try clear hb); (try clear hb2); (try clear hk); (try clear hi)))
           go_loopg [18, 19] k1 (fun kq v18 v19 w' => ∃ (x18_2 : Bool) (x19_2 : Int), v18 = .bool x18_2 ∧ v19 = .int .i64 x19_2 ∧ Aside0 (besomref09_Proves.l1 kq l0 a1 l3 a4 t366 x15_1 x16_1 x18_2 x19_2 ((rd_T25 l0 (rd l3 x16_1)).f0) ((rd_T25 l0 (rd l3 x16_1)).f1) ((rd_T25 l0 (rd l3 x16_1)).f2) ((rd_T25 l0 (rd l3 x16_1)).f3) ((rd_T25 l0 (rd l3 x16_1)).f4) ((rd_T25 l0 (rd l3 x16_1)).f5) = some (r1, r2, r3)) ∧ Aside0 (kq ≤ k1) ∧ Aside0 (Kd.R Kd.string 9 w' w.heap.size (fun k_ => some k_ ≠ (u15 : Value).ownBlock) v367 t366) ∧ Aside0 (Kd.R Kd.string 9 w' w.heap.size (fun k_ => some k_ ≠ (v367 : Value).ownBlock) u15 x15_1) ∧ Aside0 (w'.heap[gb381]? = some (.cells #[.string ((rd_T25 l0 (rd l3 x16_1)).f0), .int .i64 ((rd_T25 l0 (rd l3 x16_1)).f1), .int .i64 ((rd_T25 l0 (rd l3 x16_1)).f2), (.slice A380_3 ((rd_T25 l0 (rd l3 x16_1)).f3).length c380_3), (.slice A380_4 ((rd_T25 l0 (rd l3 x16_1)).f4).length c380_4), .string ((rd_T25 l0 (rd l3 x16_1)).f5)] 25 (0, 0))) ∧ Aside0 (Below w.heap.size w w'))
           case atStart => exact ⟨(t382), (0), (by first | rfl | (simp; done) | (simp [*]; done)), (by first | rfl | (simp; done) | (simp [*]; done)), H', ⟨Nat.le_refl _⟩, ⟨by (with_reducible repeat (first | apply Kd.R_alloc | apply Kd.R_drewN | apply Kd.R_drew)); exact HO_14.out⟩, ⟨by (with_reducible repeat (first | apply Kd.R_alloc | apply Kd.R_drewN | apply Kd.R_drew)); exact HO_15.out⟩, ⟨by (with_reducible repeat (first | refine blk_drewN ?_ _ | refine blk_drew ?_ | refine blk_alloc ?_ _)); exact BK381.out⟩, ⟨by repeat (first | (with_reducible first | exact HB.out | apply below_alloc | apply pw_below_drewN | apply below_drew1 | refine below_set ?_ GE381.out) | exact HB.out)⟩⟩
           case round =>
            clear H'
            try clear c1
            try clear c2
            try clear p2
            try clear c3
            try clear p3
            try clear q3
            try clear hx3
            try clear c4
            try clear c5
            try clear c6
            try clear c7
            try clear c7b0
            try clear c7b1
            try clear c9
            try clear c11
            try clear c13
            try clear c19
            try clear c19b0
            try clear c20
            try clear c20b0
            try clear c21
            try clear c21b0
            try clear c22
            try clear c22b0
            try clear hcz25_0
            try clear hcz25_1
            try clear hcz25_2
            try clear hcz25_3
            try clear hcz25_4
            try clear hcz25_5
            try clear hfz25_0
            try clear hfz25_1
            try clear hfz25_2
            try clear hfz25_3
            try clear hfz25_4
            try clear hfz25_5
            try clear hx379_0
            try clear hx380_0
            try clear hx380_1
            try clear hx380_2
            try clear hx380_3
            try clear hx380_4
            try clear hx380_5
            try clear p2
            try clear p379
            try clear p380
            try clear q379
            try clear q380
            obtain ⟨x18_2, x19_2, rfl, rfl, HA, HK2, HO_14, HO_15, BK381, HB⟩ := hrel
            cases gk with
            | zero => exact absurd HA.out (by simp [besomref09_Proves.l1])
            | succ k2 =>
             have H := HA.out
             clear HA
             simp only [besomref09_Proves.l1] at H
             by_cases c27 : x19_2 < (((rd_T25 l0 (rd l3 x16_1)).f3).length : Int)
             ·rw [if_pos c27] at H
              have c27b0 : decide (x19_2 < (((rd_T25 l0 (rd l3 x16_1)).f3).length : Int)) = true := decide_eq_true c27
              clear c27
              by_cases c28 : x18_2 = true
              ·subst c28
               have H1 : (if 0 ≤ x19_2 then ((besomref09_Has.f k2 x15_1 (rdOf ByteArray.empty ((rd_T25 l0 (rd l3 x16_1)).f3) x19_2)).bind fun t384 => (besomref09_Proves.l1 k2 l0 a1 l3 a4 t366 x15_1 x16_1 t384 (wrap64 (x19_2 + 1)) ((rd_T25 l0 (rd l3 x16_1)).f0) ((rd_T25 l0 (rd l3 x16_1)).f1) ((rd_T25 l0 (rd l3 x16_1)).f2) ((rd_T25 l0 (rd l3 x16_1)).f3) ((rd_T25 l0 (rd l3 x16_1)).f4) ((rd_T25 l0 (rd l3 x16_1)).f5))) else (none)) = some (r1, r2, r3) := by rw [if_pos rfl] at H; exact H
               clear H
               have H := H1
               clear H1
               by_cases c29 : 0 ≤ x19_2
               ·rw [if_pos c29] at H
                have c29b0 : decide (0 ≤ x19_2) = true := decide_eq_true c29
                clear c29
                replace H := Option.bind_eq_some_iff.mp H
                obtain ⟨t384, A300, H⟩ := H
                replace H : (besomref09_Proves.l1 k2 l0 a1 l3 a4 t366 x15_1 x16_1 t384 (wrap64 (x19_2 + 1)) ((rd_T25 l0 (rd l3 x16_1)).f0) ((rd_T25 l0 (rd l3 x16_1)).f1) ((rd_T25 l0 (rd l3 x16_1)).f2) ((rd_T25 l0 (rd l3 x16_1)).f3) ((rd_T25 l0 (rd l3 x16_1)).f4) ((rd_T25 l0 (rd l3 x16_1)).f5)) = some (r1, r2, r3) := H
                have A30 := Aside0.mk A300
                clear A300
                have H' := Aside0.mk H
                clear H
                have hcz31_0 : wr.cell? ⟨gb381, 0, none⟩ = some (.string ((rd_T25 l0 (rd l3 x16_1)).f0)) := (blk_cell BK381.out 0).trans rfl
                have hcz31_1 : wr.cell? ⟨gb381, 1, none⟩ = some (.int .i64 ((rd_T25 l0 (rd l3 x16_1)).f1)) := (blk_cell BK381.out 1).trans rfl
                have hcz31_2 : wr.cell? ⟨gb381, 2, none⟩ = some (.int .i64 ((rd_T25 l0 (rd l3 x16_1)).f2)) := (blk_cell BK381.out 2).trans rfl
                have hcz31_3 : wr.cell? ⟨gb381, 3, none⟩ = some (.slice A380_3 ((rd_T25 l0 (rd l3 x16_1)).f3).length c380_3) := (blk_cell BK381.out 3).trans rfl
                have hcz31_4 : wr.cell? ⟨gb381, 4, none⟩ = some (.slice A380_4 ((rd_T25 l0 (rd l3 x16_1)).f4).length c380_4) := (blk_cell BK381.out 4).trans rfl
                have hcz31_5 : wr.cell? ⟨gb381, 5, none⟩ = some (.string ((rd_T25 l0 (rd l3 x16_1)).f5)) := (blk_cell BK381.out 5).trans rfl
                have hfz31_0 := blk_frozen BK381.out 0
                have hfz31_1 := blk_frozen BK381.out 1
                have hfz31_2 := blk_frozen BK381.out 2
                have hfz31_3 := blk_frozen BK381.out 3
                have hfz31_4 := blk_frozen BK381.out 4
                have hfz31_5 := blk_frozen BK381.out 5
                have p383 : 0 ≤ (x19_2 : Int) := of_decide_eq_true (by first | (with_reducible assumption) | assumption)
                have q383 : x19_2 < (((rd_T25 l0 (rd l3 x16_1)).f3).length : Int) := of_decide_eq_true (by first | (with_reducible assumption) | assumption)
                obtain ⟨ad383, e383, hx383_0⟩ := Kd.at_string HR380_3.out x19_2 p383 q383
                cases e383
                replace hx383_0 := (HB.out.cell (World.block_lt_of_cell? w _ hx383_0)).trans hx383_0
                replace p383 := eq_true p383
                replace q383 := eq_true q383
                obtain ⟨Ao32, co32, eo32⟩ := Kd.R_slice HO_15.out
                subst eo32
                go_wp2_with (first | (go_at_call 30; (with_reducible refine (besomref09_Has.calls k2 _ _ x15_1 (rdOf ByteArray.empty ((rd_T25 l0 (rd l3 x16_1)).f3) x19_2) t384 _ ?side1 ?side2 A30.out).mono ?_); (case side1 => repeat (first | exact (Kd.R_reads' HO_15.out).2.2 | (with_reducible refine Kd.C_alloc ?_ _) | (with_reducible refine Kd.C_drewN ?_ _) | (with_reducible refine Kd.C_drew ?_))); (case side2 => exact (Kd.R_reads' HO_15.out).2.1); rintro e w' ⟨rfl, ⟨nd, rfl⟩⟩))
                go_roundg k2
                case measure => have := HK1.out; have := HK2.out; omega
                case rel => exact ⟨(t384), (wrap64 (x19_2 + 1)), (by first | rfl | (simp; done) | (simp [*]; done)), (by first | rfl | (simp; done) | (simp [*]; done)), H', ⟨by have := HK1.out; have := HK2.out; omega⟩, ⟨by (with_reducible repeat (first | apply Kd.R_alloc | apply Kd.R_drewN | apply Kd.R_drew)); exact HO_14.out⟩, ⟨by (with_reducible repeat (first | apply Kd.R_alloc | apply Kd.R_drewN | apply Kd.R_drew)); exact HO_15.out⟩, ⟨by (with_reducible repeat (first | refine blk_drewN ?_ _ | refine blk_drew ?_ | refine blk_alloc ?_ _)); exact BK381.out⟩, ⟨by repeat (first | (with_reducible first | exact HB.out | apply below_alloc | apply pw_below_drewN | apply below_drew1 | refine below_set ?_ GE381.out) | exact HB.out)⟩⟩
               ·rw [if_neg c29] at H
                exact absurd H (by simp)
              ·replace c28 := Bool.eq_false_iff.mpr c28
               subst c28
               have H1 : (besomref09_Proves.l1 k2 l0 a1 l3 a4 t366 x15_1 x16_1 false (wrap64 (x19_2 + 1)) ((rd_T25 l0 (rd l3 x16_1)).f0) ((rd_T25 l0 (rd l3 x16_1)).f1) ((rd_T25 l0 (rd l3 x16_1)).f2) ((rd_T25 l0 (rd l3 x16_1)).f3) ((rd_T25 l0 (rd l3 x16_1)).f4) ((rd_T25 l0 (rd l3 x16_1)).f5)) = some (r1, r2, r3) := by rw [if_neg (show ¬ (false = true) by decide)] at H; exact H
               clear H
               have H := H1
               clear H1
               have H' := Aside0.mk H
               clear H
               have hcz33_0 : wr.cell? ⟨gb381, 0, none⟩ = some (.string ((rd_T25 l0 (rd l3 x16_1)).f0)) := (blk_cell BK381.out 0).trans rfl
               have hcz33_1 : wr.cell? ⟨gb381, 1, none⟩ = some (.int .i64 ((rd_T25 l0 (rd l3 x16_1)).f1)) := (blk_cell BK381.out 1).trans rfl
               have hcz33_2 : wr.cell? ⟨gb381, 2, none⟩ = some (.int .i64 ((rd_T25 l0 (rd l3 x16_1)).f2)) := (blk_cell BK381.out 2).trans rfl
               have hcz33_3 : wr.cell? ⟨gb381, 3, none⟩ = some (.slice A380_3 ((rd_T25 l0 (rd l3 x16_1)).f3).length c380_3) := (blk_cell BK381.out 3).trans rfl
               have hcz33_4 : wr.cell? ⟨gb381, 4, none⟩ = some (.slice A380_4 ((rd_T25 l0 (rd l3 x16_1)).f4).length c380_4) := (blk_cell BK381.out 4).trans rfl
               have hcz33_5 : wr.cell? ⟨gb381, 5, none⟩ = some (.string ((rd_T25 l0 (rd l3 x16_1)).f5)) := (blk_cell BK381.out 5).trans rfl
               have hfz33_0 := blk_frozen BK381.out 0
               have hfz33_1 := blk_frozen BK381.out 1
               have hfz33_2 := blk_frozen BK381.out 2
               have hfz33_3 := blk_frozen BK381.out 3
               have hfz33_4 := blk_frozen BK381.out 4
               have hfz33_5 := blk_frozen BK381.out 5
               go_wp2
               go_roundg k2
               case measure => have := HK1.out; have := HK2.out; omega
               case rel => exact ⟨(false), (wrap64 (x19_2 + 1)), (by first | rfl | (simp; done) | (simp [*]; done)), (by first | rfl | (simp; done) | (simp [*]; done)), H', ⟨by have := HK1.out; have := HK2.out; omega⟩, ⟨by (with_reducible repeat (first | apply Kd.R_alloc | apply Kd.R_drewN | apply Kd.R_drew)); exact HO_14.out⟩, ⟨by (with_reducible repeat (first | apply Kd.R_alloc | apply Kd.R_drewN | apply Kd.R_drew)); exact HO_15.out⟩, ⟨by (with_reducible repeat (first | refine blk_drewN ?_ _ | refine blk_drew ?_ | refine blk_alloc ?_ _)); exact BK381.out⟩, ⟨by repeat (first | (with_reducible first | exact HB.out | apply below_alloc | apply pw_below_drewN | apply below_drew1 | refine below_set ?_ GE381.out) | exact HB.out)⟩⟩
             ·rw [if_neg c27] at H
              have c27b0 : decide (x19_2 < (((rd_T25 l0 (rd l3 x16_1)).f3).length : Int)) = false := decide_eq_false c27
              clear c27
              have H' := Aside0.mk H
              clear H
              have hcz34_0 : wr.cell? ⟨gb381, 0, none⟩ = some (.string ((rd_T25 l0 (rd l3 x16_1)).f0)) := (blk_cell BK381.out 0).trans rfl
              have hcz34_1 : wr.cell? ⟨gb381, 1, none⟩ = some (.int .i64 ((rd_T25 l0 (rd l3 x16_1)).f1)) := (blk_cell BK381.out 1).trans rfl
              have hcz34_2 : wr.cell? ⟨gb381, 2, none⟩ = some (.int .i64 ((rd_T25 l0 (rd l3 x16_1)).f2)) := (blk_cell BK381.out 2).trans rfl
              have hcz34_3 : wr.cell? ⟨gb381, 3, none⟩ = some (.slice A380_3 ((rd_T25 l0 (rd l3 x16_1)).f3).length c380_3) := (blk_cell BK381.out 3).trans rfl
              have hcz34_4 : wr.cell? ⟨gb381, 4, none⟩ = some (.slice A380_4 ((rd_T25 l0 (rd l3 x16_1)).f4).length c380_4) := (blk_cell BK381.out 4).trans rfl
              have hcz34_5 : wr.cell? ⟨gb381, 5, none⟩ = some (.string ((rd_T25 l0 (rd l3 x16_1)).f5)) := (blk_cell BK381.out 5).trans rfl
              have hfz34_0 := blk_frozen BK381.out 0
              have hfz34_1 := blk_frozen BK381.out 1
              have hfz34_2 := blk_frozen BK381.out 2
              have hfz34_3 := blk_frozen BK381.out 3
              have hfz34_4 := blk_frozen BK381.out 4
              have hfz34_5 := blk_frozen BK381.out 5
              go_wp2
              go_loopg [18, 20] k2 (fun kq v18 v20 w' => ∃ (x18_3 : Bool) (x20_3 : Int), v18 = .bool x18_3 ∧ v20 = .int .i64 x20_3 ∧ Aside0 (besomref09_Proves.l2 kq l0 a1 l3 a4 t366 x15_1 x16_1 x18_3 x20_3 ((rd_T25 l0 (rd l3 x16_1)).f0) ((rd_T25 l0 (rd l3 x16_1)).f1) ((rd_T25 l0 (rd l3 x16_1)).f2) ((rd_T25 l0 (rd l3 x16_1)).f3) ((rd_T25 l0 (rd l3 x16_1)).f4) ((rd_T25 l0 (rd l3 x16_1)).f5) = some (r1, r2, r3)) ∧ Aside0 (kq ≤ k2) ∧ Aside0 (Kd.R Kd.string 9 w' w.heap.size (fun k_ => some k_ ≠ (u15 : Value).ownBlock) v367 t366) ∧ Aside0 (Kd.R Kd.string 9 w' w.heap.size (fun k_ => some k_ ≠ (v367 : Value).ownBlock) u15 x15_1) ∧ Aside0 (w'.heap[gb381]? = some (.cells #[.string ((rd_T25 l0 (rd l3 x16_1)).f0), .int .i64 ((rd_T25 l0 (rd l3 x16_1)).f1), .int .i64 ((rd_T25 l0 (rd l3 x16_1)).f2), (.slice A380_3 ((rd_T25 l0 (rd l3 x16_1)).f3).length c380_3), (.slice A380_4 ((rd_T25 l0 (rd l3 x16_1)).f4).length c380_4), .string ((rd_T25 l0 (rd l3 x16_1)).f5)] 25 (0, 0))) ∧ Aside0 (Below w.heap.size w w'))
              case atStart => exact ⟨(x18_2), (0), (by first | rfl | (simp; done) | (simp [*]; done)), (by first | rfl | (simp; done) | (simp [*]; done)), H', ⟨Nat.le_refl _⟩, ⟨by (with_reducible repeat (first | apply Kd.R_alloc | apply Kd.R_drewN | apply Kd.R_drew)); exact HO_14.out⟩, ⟨by (with_reducible repeat (first | apply Kd.R_alloc | apply Kd.R_drewN | apply Kd.R_drew)); exact HO_15.out⟩, ⟨by (with_reducible repeat (first | refine blk_drewN ?_ _ | refine blk_drew ?_ | refine blk_alloc ?_ _)); exact BK381.out⟩, ⟨by repeat (first | (with_reducible first | exact HB.out | apply below_alloc | apply pw_below_drewN | apply below_drew1 | refine below_set ?_ GE381.out) | exact HB.out)⟩⟩
              case round =>
               clear H'
               try clear c1
               try clear c2
               try clear p2
               try clear c3
               try clear p3
               try clear q3
               try clear hx3
               try clear c4
               try clear c5
               try clear c6
               try clear p6
               try clear c7
               try clear c7b0
               try clear c7b1
               try clear c9
               try clear c11
               try clear c13
               try clear c19
               try clear c19b0
               try clear c20
               try clear c20b0
               try clear c21
               try clear c21b0
               try clear c22
               try clear c22b0
               try clear c27
               try clear c27b0
               try clear c28
               try clear c29
               try clear c29b0
               try clear c31
               try clear c33
               try clear hcz25_0
               try clear hcz25_1
               try clear hcz25_2
               try clear hcz25_3
               try clear hcz25_4
               try clear hcz25_5
               try clear hcz31_0
               try clear hcz31_1
               try clear hcz31_2
               try clear hcz31_3
               try clear hcz31_4
               try clear hcz31_5
               try clear hcz33_0
               try clear hcz33_1
               try clear hcz33_2
               try clear hcz33_3
               try clear hcz33_4
               try clear hcz33_5
               try clear hcz34_0
               try clear hcz34_1
               try clear hcz34_2
               try clear hcz34_3
               try clear hcz34_4
               try clear hcz34_5
               try clear hfz25_0
               try clear hfz25_1
               try clear hfz25_2
               try clear hfz25_3
               try clear hfz25_4
               try clear hfz25_5
               try clear hfz31_0
               try clear hfz31_1
               try clear hfz31_2
               try clear hfz31_3
               try clear hfz31_4
               try clear hfz31_5
               try clear hfz33_0
               try clear hfz33_1
               try clear hfz33_2
               try clear hfz33_3
               try clear hfz33_4
               try clear hfz33_5
               try clear hfz34_0
               try clear hfz34_1
               try clear hfz34_2
               try clear hfz34_3
               try clear hfz34_4
               try clear hfz34_5
               try clear hx379_0
               try clear hx380_0
               try clear hx380_1
               try clear hx380_2
               try clear hx380_3
               try clear hx380_4
               try clear hx380_5
               try clear hx383_0
               try clear p2
               try clear p3
               try clear p379
               try clear p380
               try clear p383
               try clear q3
               try clear q379
               try clear q380
               try clear q383
               obtain ⟨x18_3, x20_3, rfl, rfl, HA, HK3, HO_14, HO_15, BK381, HB⟩ := hrel
               cases gk with
               | zero => exact absurd HA.out (by simp [besomref09_Proves.l2])
               | succ k3 =>
                have H := HA.out
                clear HA
                simp only [besomref09_Proves.l2] at H
                by_cases c35 : x20_3 < (((rd_T25 l0 (rd l3 x16_1)).f4).length : Int)
                ·rw [if_pos c35] at H
                 have c35b0 : decide (x20_3 < (((rd_T25 l0 (rd l3 x16_1)).f4).length : Int)) = true := decide_eq_true c35
                 clear c35
                 by_cases c36 : x18_3 = true
                 ·subst c36
                  have H1 : (if 0 ≤ x20_3 then ((besomref09_Has.f k3 t366 (rdOf ByteArray.empty ((rd_T25 l0 (rd l3 x16_1)).f4) x20_3)).bind fun t386 => (besomref09_Proves.l2 k3 l0 a1 l3 a4 t366 x15_1 x16_1 (!t386) (wrap64 (x20_3 + 1)) ((rd_T25 l0 (rd l3 x16_1)).f0) ((rd_T25 l0 (rd l3 x16_1)).f1) ((rd_T25 l0 (rd l3 x16_1)).f2) ((rd_T25 l0 (rd l3 x16_1)).f3) ((rd_T25 l0 (rd l3 x16_1)).f4) ((rd_T25 l0 (rd l3 x16_1)).f5))) else (none)) = some (r1, r2, r3) := by rw [if_pos rfl] at H; exact H
                  clear H
                  have H := H1
                  clear H1
                  by_cases c37 : 0 ≤ x20_3
                  ·rw [if_pos c37] at H
                   have c37b0 : decide (0 ≤ x20_3) = true := decide_eq_true c37
                   clear c37
                   replace H := Option.bind_eq_some_iff.mp H
                   obtain ⟨t386, A380, H⟩ := H
                   replace H : (besomref09_Proves.l2 k3 l0 a1 l3 a4 t366 x15_1 x16_1 (!t386) (wrap64 (x20_3 + 1)) ((rd_T25 l0 (rd l3 x16_1)).f0) ((rd_T25 l0 (rd l3 x16_1)).f1) ((rd_T25 l0 (rd l3 x16_1)).f2) ((rd_T25 l0 (rd l3 x16_1)).f3) ((rd_T25 l0 (rd l3 x16_1)).f4) ((rd_T25 l0 (rd l3 x16_1)).f5)) = some (r1, r2, r3) := H
                   have A38 := Aside0.mk A380
                   clear A380
                   have H' := Aside0.mk H
                   clear H
                   have hcz39_0 : wr.cell? ⟨gb381, 0, none⟩ = some (.string ((rd_T25 l0 (rd l3 x16_1)).f0)) := (blk_cell BK381.out 0).trans rfl
                   have hcz39_1 : wr.cell? ⟨gb381, 1, none⟩ = some (.int .i64 ((rd_T25 l0 (rd l3 x16_1)).f1)) := (blk_cell BK381.out 1).trans rfl
                   have hcz39_2 : wr.cell? ⟨gb381, 2, none⟩ = some (.int .i64 ((rd_T25 l0 (rd l3 x16_1)).f2)) := (blk_cell BK381.out 2).trans rfl
                   have hcz39_3 : wr.cell? ⟨gb381, 3, none⟩ = some (.slice A380_3 ((rd_T25 l0 (rd l3 x16_1)).f3).length c380_3) := (blk_cell BK381.out 3).trans rfl
                   have hcz39_4 : wr.cell? ⟨gb381, 4, none⟩ = some (.slice A380_4 ((rd_T25 l0 (rd l3 x16_1)).f4).length c380_4) := (blk_cell BK381.out 4).trans rfl
                   have hcz39_5 : wr.cell? ⟨gb381, 5, none⟩ = some (.string ((rd_T25 l0 (rd l3 x16_1)).f5)) := (blk_cell BK381.out 5).trans rfl
                   have hfz39_0 := blk_frozen BK381.out 0
                   have hfz39_1 := blk_frozen BK381.out 1
                   have hfz39_2 := blk_frozen BK381.out 2
                   have hfz39_3 := blk_frozen BK381.out 3
                   have hfz39_4 := blk_frozen BK381.out 4
                   have hfz39_5 := blk_frozen BK381.out 5
                   have p385 : 0 ≤ (x20_3 : Int) := of_decide_eq_true (by first | (with_reducible assumption) | assumption)
                   have q385 : x20_3 < (((rd_T25 l0 (rd l3 x16_1)).f4).length : Int) := of_decide_eq_true (by first | (with_reducible assumption) | assumption)
                   obtain ⟨ad385, e385, hx385_0⟩ := Kd.at_string HR380_4.out x20_3 p385 q385
                   cases e385
                   replace hx385_0 := (HB.out.cell (World.block_lt_of_cell? w _ hx385_0)).trans hx385_0
                   replace p385 := eq_true p385
                   replace q385 := eq_true q385
                   obtain ⟨Ao40, co40, eo40⟩ := Kd.R_slice HO_14.out
                   subst eo40
                   go_wp2_with (first | (go_at_call 30; (with_reducible refine (besomref09_Has.calls k3 _ _ t366 (rdOf ByteArray.empty ((rd_T25 l0 (rd l3 x16_1)).f4) x20_3) t386 _ ?side1 ?side2 A38.out).mono ?_); (case side1 => repeat (first | exact (Kd.R_reads' HO_14.out).2.2 | (with_reducible refine Kd.C_alloc ?_ _) | (with_reducible refine Kd.C_drewN ?_ _) | (with_reducible refine Kd.C_drew ?_))); (case side2 => exact (Kd.R_reads' HO_14.out).2.1); rintro e w' ⟨rfl, ⟨nd, rfl⟩⟩))
                   go_roundg k3
                   case measure => have := HK1.out; have := HK2.out; have := HK3.out; omega
                   case rel => exact ⟨(!t386), (wrap64 (x20_3 + 1)), (by first | rfl | (simp; done) | (simp [*]; done)), (by first | rfl | (simp; done) | (simp [*]; done)), H', ⟨by have := HK1.out; have := HK2.out; have := HK3.out; omega⟩, ⟨by (with_reducible repeat (first | apply Kd.R_alloc | apply Kd.R_drewN | apply Kd.R_drew)); exact HO_14.out⟩, ⟨by (with_reducible repeat (first | apply Kd.R_alloc | apply Kd.R_drewN | apply Kd.R_drew)); exact HO_15.out⟩, ⟨by (with_reducible repeat (first | refine blk_drewN ?_ _ | refine blk_drew ?_ | refine blk_alloc ?_ _)); exact BK381.out⟩, ⟨by repeat (first | (with_reducible first | exact HB.out | apply below_alloc | apply pw_below_drewN | apply below_drew1 | refine below_set ?_ GE381.out) | exact HB.out)⟩⟩
                  ·rw [if_neg c37] at H
                   exact absurd H (by simp)
                 ·replace c36 := Bool.eq_false_iff.mpr c36
                  subst c36
                  have H1 : (besomref09_Proves.l2 k3 l0 a1 l3 a4 t366 x15_1 x16_1 false (wrap64 (x20_3 + 1)) ((rd_T25 l0 (rd l3 x16_1)).f0) ((rd_T25 l0 (rd l3 x16_1)).f1) ((rd_T25 l0 (rd l3 x16_1)).f2) ((rd_T25 l0 (rd l3 x16_1)).f3) ((rd_T25 l0 (rd l3 x16_1)).f4) ((rd_T25 l0 (rd l3 x16_1)).f5)) = some (r1, r2, r3) := by rw [if_neg (show ¬ (false = true) by decide)] at H; exact H
                  clear H
                  have H := H1
                  clear H1
                  have H' := Aside0.mk H
                  clear H
                  have hcz41_0 : wr.cell? ⟨gb381, 0, none⟩ = some (.string ((rd_T25 l0 (rd l3 x16_1)).f0)) := (blk_cell BK381.out 0).trans rfl
                  have hcz41_1 : wr.cell? ⟨gb381, 1, none⟩ = some (.int .i64 ((rd_T25 l0 (rd l3 x16_1)).f1)) := (blk_cell BK381.out 1).trans rfl
                  have hcz41_2 : wr.cell? ⟨gb381, 2, none⟩ = some (.int .i64 ((rd_T25 l0 (rd l3 x16_1)).f2)) := (blk_cell BK381.out 2).trans rfl
                  have hcz41_3 : wr.cell? ⟨gb381, 3, none⟩ = some (.slice A380_3 ((rd_T25 l0 (rd l3 x16_1)).f3).length c380_3) := (blk_cell BK381.out 3).trans rfl
                  have hcz41_4 : wr.cell? ⟨gb381, 4, none⟩ = some (.slice A380_4 ((rd_T25 l0 (rd l3 x16_1)).f4).length c380_4) := (blk_cell BK381.out 4).trans rfl
                  have hcz41_5 : wr.cell? ⟨gb381, 5, none⟩ = some (.string ((rd_T25 l0 (rd l3 x16_1)).f5)) := (blk_cell BK381.out 5).trans rfl
                  have hfz41_0 := blk_frozen BK381.out 0
                  have hfz41_1 := blk_frozen BK381.out 1
                  have hfz41_2 := blk_frozen BK381.out 2
                  have hfz41_3 := blk_frozen BK381.out 3
                  have hfz41_4 := blk_frozen BK381.out 4
                  have hfz41_5 := blk_frozen BK381.out 5
                  go_wp2
                  go_roundg k3
                  case measure => have := HK1.out; have := HK2.out; have := HK3.out; omega
                  case rel => exact ⟨(false), (wrap64 (x20_3 + 1)), (by first | rfl | (simp; done) | (simp [*]; done)), (by first | rfl | (simp; done) | (simp [*]; done)), H', ⟨by have := HK1.out; have := HK2.out; have := HK3.out; omega⟩, ⟨by (with_reducible repeat (first | apply Kd.R_alloc | apply Kd.R_drewN | apply Kd.R_drew)); exact HO_14.out⟩, ⟨by (with_reducible repeat (first | apply Kd.R_alloc | apply Kd.R_drewN | apply Kd.R_drew)); exact HO_15.out⟩, ⟨by (with_reducible repeat (first | refine blk_drewN ?_ _ | refine blk_drew ?_ | refine blk_alloc ?_ _)); exact BK381.out⟩, ⟨by repeat (first | (with_reducible first | exact HB.out | apply below_alloc | apply pw_below_drewN | apply below_drew1 | refine below_set ?_ GE381.out) | exact HB.out)⟩⟩
                ·rw [if_neg c35] at H
                 have c35b0 : decide (x20_3 < (((rd_T25 l0 (rd l3 x16_1)).f4).length : Int)) = false := decide_eq_false c35
                 clear c35
                 by_cases c42 : x18_3 = true
                 ·subst c42
                  have H1 : (if x15_1.length < 8796093022208 then (besomref09_Proves.l0 k3 l0 a1 l3 a4 t366 (x15_1 ++ [((rd_T25 l0 (rd l3 x16_1)).f5)]) (wrap64 (x16_1 + 1))) else (none)) = some (r1, r2, r3) := by rw [if_pos rfl] at H; exact H
                  clear H
                  have H := H1
                  clear H1
                  by_cases c43 : x15_1.length < 8796093022208
                  ·rw [if_pos c43] at H
                   have LMc43 := Aside0.mk c43
                   clear c43
                   obtain ⟨y387, hy387⟩ : ∃ y_ : List ByteArray, y_ = (x15_1 ++ [((rd_T25 l0 (rd l3 x16_1)).f5)]) := ⟨_, rfl⟩
                   replace H : (besomref09_Proves.l0 k3 l0 a1 l3 a4 t366 y387 (wrap64 (x16_1 + 1))) = some (r1, r2, r3) := by first | (rw [hy387]; with_reducible exact H) | (have H2_ := (Option.bind_some _ _).symm.trans H; rw [hy387]; with_reducible exact H2_) | (have H2_ := (Option.bind_some _ _).symm.trans H; with_reducible exact H2_) | with_reducible exact H | (rw [hy387]; exact H) | exact H
                   have Ny387 := Aside0.mk hy387
                   clear hy387
                   have H' := Aside0.mk H
                   clear H
                   have hcz44_0 : wr.cell? ⟨gb381, 0, none⟩ = some (.string ((rd_T25 l0 (rd l3 x16_1)).f0)) := (blk_cell BK381.out 0).trans rfl
                   have hcz44_1 : wr.cell? ⟨gb381, 1, none⟩ = some (.int .i64 ((rd_T25 l0 (rd l3 x16_1)).f1)) := (blk_cell BK381.out 1).trans rfl
                   have hcz44_2 : wr.cell? ⟨gb381, 2, none⟩ = some (.int .i64 ((rd_T25 l0 (rd l3 x16_1)).f2)) := (blk_cell BK381.out 2).trans rfl
                   have hcz44_3 : wr.cell? ⟨gb381, 3, none⟩ = some (.slice A380_3 ((rd_T25 l0 (rd l3 x16_1)).f3).length c380_3) := (blk_cell BK381.out 3).trans rfl
                   have hcz44_4 : wr.cell? ⟨gb381, 4, none⟩ = some (.slice A380_4 ((rd_T25 l0 (rd l3 x16_1)).f4).length c380_4) := (blk_cell BK381.out 4).trans rfl
                   have hcz44_5 : wr.cell? ⟨gb381, 5, none⟩ = some (.string ((rd_T25 l0 (rd l3 x16_1)).f5)) := (blk_cell BK381.out 5).trans rfl
                   have hfz44_0 := blk_frozen BK381.out 0
                   have hfz44_1 := blk_frozen BK381.out 1
                   have hfz44_2 := blk_frozen BK381.out 2
                   have hfz44_3 := blk_frozen BK381.out 3
                   have hfz44_4 := blk_frozen BK381.out 4
                   have hfz44_5 := blk_frozen BK381.out 5
                   go_wp2_with (first | ((with_reducible refine gate_builtin (b := .append) (xs := #[.tmp 97, .tmp 100]) rfl ?_); at_builtin; refine Kd.R_append Kd.string (w0 := w) w.heap.size rfl (.tmp 97) (.tmp 100) 23 9 (.string ⟨#[]⟩) 16 rfl Tryz.underlying23 info9 rfl (by decide) (by omega) u15 x15_1 ((rd_T25 l0 (rd l3 x16_1)).f5) [.string ((rd_T25 l0 (rd l3 x16_1)).f5)] (fun k_ => some k_ ≠ (v367 : Value).ownBlock) (fun _ => False) rfl rfl ?aP (fun _ hk => hk.elim) ?aF ?aO ?aB ?aS ?aL ?_; (case aP => exact rfl); (case aB => exact (by repeat (first | (with_reducible first | exact HB.out | apply below_alloc | apply pw_below_drewN | apply below_drew1 | refine below_set ?_ GE381.out) | exact HB.out))); (case aF => exact (fun k_ hk => Kd.fresh' (Kd.R_lt (by (with_reducible repeat (first | apply Kd.R_alloc | apply Kd.R_drewN | apply Kd.R_drew)); exact HO_14.out)) k_ hk)); (case aO => exact (by (with_reducible repeat (first | apply Kd.R_alloc | apply Kd.R_drewN | apply Kd.R_drew)); exact HO_15.out)); (case aS => exact (below_size (by repeat (first | (with_reducible first | exact HB.out | apply below_alloc | apply pw_below_drewN | apply below_drew1 | refine below_set ?_ GE381.out) | exact HB.out)))); (case aL => have := LMc43.out; omega); intro v388 w45 ho hb hg hat; rw [← Ny387.out] at ho; have n0_ := Aside0.mk (Kd.R_after (ok := (fun _ => True)) (by (with_reducible repeat (first | apply Kd.R_alloc | apply Kd.R_drewN | apply Kd.R_drew)); exact Kd.R_mono HO_14.out (fun _ hk => ⟨trivial, hk⟩)) hg hat); have n1_ := Aside0.mk (blk_grown (g := gb381) (o := .cells #[.string ((rd_T25 l0 (rd l3 x16_1)).f0), .int .i64 ((rd_T25 l0 (rd l3 x16_1)).f1), .int .i64 ((rd_T25 l0 (rd l3 x16_1)).f2), .slice A380_3 ((rd_T25 l0 (rd l3 x16_1)).f3).length c380_3, .slice A380_4 ((rd_T25 l0 (rd l3 x16_1)).f4).length c380_4, .string ((rd_T25 l0 (rd l3 x16_1)).f5)] 25 (0, 0)) (by (with_reducible repeat (first | refine blk_drewN ?_ _ | refine blk_drew ?_ | refine blk_alloc ?_ _)); exact BK381.out) hg (Kd.R_ne HO_15.out BK381.out (by decide))); have n2_ := Aside0.mk (hb); have n3_ := Aside0.mk (ho); clear HO_14; clear BK381; clear HB; clear HO_15; have HO_14 := n0_; have BK381 := n1_; have HB := n2_; have HO389 := n3_; clear n0_ n1_ n2_ n3_; clear ho hb hg hat))
                   go_roundg k3
                   case measure => have := HK1.out; have := HK2.out; have := HK3.out; omega
                   case rel => exact ⟨(y387), (wrap64 (x16_1 + 1)), (by first | rfl | (simp; done) | (simp [*]; done)), H', ⟨by have := HK1.out; have := HK2.out; have := HK3.out; omega⟩, ⟨by (with_reducible repeat (first | apply Kd.R_alloc | apply Kd.R_drewN | apply Kd.R_drew)); exact Kd.R_mono HO_14.out (fun _ hk => hk.2)⟩, ⟨by (with_reducible repeat (first | apply Kd.R_alloc | apply Kd.R_drewN | apply Kd.R_drew)); exact HO389.out⟩, ⟨by repeat (first | (with_reducible first | exact HB.out | apply below_alloc | apply pw_below_drewN | apply below_drew1 | refine below_set ?_ GE381.out) | exact HB.out)⟩⟩
                  ·rw [if_neg c43] at H
                   exact absurd H (by simp)
                 ·replace c42 := Bool.eq_false_iff.mpr c42
                  subst c42
                  have H1 : (some (false, x16_1, 0)) = some (r1, r2, r3) := by rw [if_neg (show ¬ (false = true) by decide)] at H; exact H
                  clear H
                  have H := H1
                  clear H1
                  simp only [Option.some.injEq, Prod.mk.injEq] at H
                  obtain ⟨rfl, rfl, rfl⟩ := H
                  have hcz46_0 : wr.cell? ⟨gb381, 0, none⟩ = some (.string ((rd_T25 l0 (rd l3 x16_1)).f0)) := (blk_cell BK381.out 0).trans rfl
                  have hcz46_1 : wr.cell? ⟨gb381, 1, none⟩ = some (.int .i64 ((rd_T25 l0 (rd l3 x16_1)).f1)) := (blk_cell BK381.out 1).trans rfl
                  have hcz46_2 : wr.cell? ⟨gb381, 2, none⟩ = some (.int .i64 ((rd_T25 l0 (rd l3 x16_1)).f2)) := (blk_cell BK381.out 2).trans rfl
                  have hcz46_3 : wr.cell? ⟨gb381, 3, none⟩ = some (.slice A380_3 ((rd_T25 l0 (rd l3 x16_1)).f3).length c380_3) := (blk_cell BK381.out 3).trans rfl
                  have hcz46_4 : wr.cell? ⟨gb381, 4, none⟩ = some (.slice A380_4 ((rd_T25 l0 (rd l3 x16_1)).f4).length c380_4) := (blk_cell BK381.out 4).trans rfl
                  have hcz46_5 : wr.cell? ⟨gb381, 5, none⟩ = some (.string ((rd_T25 l0 (rd l3 x16_1)).f5)) := (blk_cell BK381.out 5).trans rfl
                  have hfz46_0 := blk_frozen BK381.out 0
                  have hfz46_1 := blk_frozen BK381.out 1
                  have hfz46_2 := blk_frozen BK381.out 2
                  have hfz46_3 := blk_frozen BK381.out 3
                  have hfz46_4 := blk_frozen BK381.out 4
                  have hfz46_5 := blk_frozen BK381.out 5
                  go_wp2
                  go_ret3
                  exact ⟨by first | rfl | (simp [errW_none, errW_some] <;> rfl) | (simp [*, errW_none, errW_some] <;> rfl), by repeat (first | (with_reducible first | exact HB.out | apply below_alloc | apply pw_below_drewN | apply below_drew1 | refine below_set ?_ GE381.out) | exact HB.out)⟩
          ·rw [if_neg c22] at H
           exact absurd H (by simp)
         ·rw [if_neg c21] at H
          exact absurd H (by simp)
        ·rw [if_neg c20] at H
         exact absurd H (by simp)
       ·rw [if_neg c19] at H
        have c19b0 : decide (x16_1 < (l3.length : Int)) = false := decide_eq_false c19
        clear c19
        replace H := Option.bind_eq_some_iff.mp H
        obtain ⟨t378, A470, H⟩ := H
        replace H : (some (t378, (-1), 0)) = some (r1, r2, r3) := H
        have A47 := Aside0.mk A470
        clear A470
        simp only [Option.some.injEq, Prod.mk.injEq] at H
        obtain ⟨rfl, rfl, rfl⟩ := H
        obtain ⟨Ao48, co48, eo48⟩ := Kd.R_slice HO_15.out
        subst eo48
        go_wp2_with (first | ((with_reducible refine gate_callee (f := 30) rfl ?_); refine goesL_ (some 104) rfl rfl Tryz.func30 (by kernel_rfl) rfl #[.slice Ao48 x15_1.length co48, .string a4] rfl (by (try simp only [List.map_toArray, List.map_cons, List.map_nil]); first | done | rfl | (simp only [List.length_drop, List.length_take]; rfl)) ?_; (with_reducible refine (besomref09_Has.calls k1 _ _ x15_1 a4 t378 _ ?side1 ?side2 A47.out).mono ?_); (case side1 => repeat (first | exact (Kd.R_reads' HO_15.out).2.2 | (with_reducible refine Kd.C_alloc ?_ _) | (with_reducible refine Kd.C_drewN ?_ _) | (with_reducible refine Kd.C_drew ?_))); (case side2 => exact (Kd.R_reads' HO_15.out).2.1); rintro e w' ⟨rfl, ⟨nd, rfl⟩⟩; refine ⟨_, rfl, ?_⟩))
        go_ret3
        exact ⟨by first | rfl | (simp [errW_none, errW_some] <;> rfl) | (simp [*, errW_none, errW_some] <;> rfl), by repeat (first | (with_reducible first | exact HB.out | apply below_alloc | apply pw_below_drewN | apply below_drew1) | exact HB.out)⟩
    ·rw [if_neg c13] at H
     exact absurd H (by simp)
   ·replace c11 := Bool.eq_false_iff.mpr c11
    subst c11
    have H1 : (some (false, (-1), 4)) = some (r1, r2, r3) := by rw [if_neg (show ¬ (false = true) by decide)] at H; exact H
    clear H
    have H := H1
    clear H1
    simp only [Option.some.injEq, Prod.mk.injEq] at H
    obtain ⟨rfl, rfl, rfl⟩ := H
    go_enter Tryz.func33, Tryz.ntmps33
    go_wp2_with (first | ((with_reducible refine gate_callee (f := 54) rfl ?_); refine goesL_ (some 24) rfl rfl Tryz.func54 (by kernel_rfl) rfl #[.slice A0 l0.length c0, .int .i64 a1, .slice A2 l2.length c2] rfl (by (try simp only [List.map_toArray, List.map_cons, List.map_nil]); first | done | rfl | (simp only [List.length_drop, List.length_take]; rfl)) ?_; (with_reducible refine (besomref09_asked.calls k _ _ l0 a1 _ _ l2 t363 _ ?side1 ?side2 ?side3 ?side4 A6.out).mono ?_); (case side1 => repeat (first | exact HR0.out | (with_reducible refine Kd.C_alloc ?_ _) | (with_reducible refine Kd.C_drewN ?_ _) | (with_reducible refine Kd.C_drew ?_))); (case side2 => exact HC0.out); (case side3 => repeat (first | exact HR2.out | (with_reducible refine Kd.C_alloc ?_ _) | (with_reducible refine Kd.C_drewN ?_ _) | (with_reducible refine Kd.C_drew ?_))); (case side4 => exact HC2.out); rintro e w49 ⟨rfl, hb⟩; refine ⟨_, rfl, ?_⟩; have n0_ := Aside0.mk (below_step (by repeat (first | (with_reducible first | exact HB.out | apply below_alloc | apply pw_below_drewN | apply below_drew1) | exact HB.out)) hb); clear HB; have HB := n0_; clear n0_; (try clear hb); (try clear hb2); (try clear hk); (try clear hi)) | ((with_reducible refine gate_callee (f := 44) rfl ?_); refine goesL_ (some 29) rfl rfl Tryz.func44 (by kernel_rfl) rfl #[.string a4] rfl (by (try simp only [List.map_toArray, List.map_cons, List.map_nil]); first | done | rfl | (simp only [List.length_drop, List.length_take]; rfl)) ?_; (with_reducible refine (besomref09_Name.calls k a4 true _ A8.out).mono ?_); rintro e w' ⟨rfl, ⟨nd, rfl⟩⟩; refine ⟨_, rfl, ?_⟩) | ((with_reducible refine gate_callee (f := 63) rfl ?_); refine goesL_ (some 33) rfl rfl Tryz.func63 (by kernel_rfl) rfl #[.slice A0 l0.length c0, .slice A3 l3.length c3] rfl (by (try simp only [List.map_toArray, List.map_cons, List.map_nil]); first | done | rfl | (simp only [List.length_drop, List.length_take]; rfl)) ?_; (with_reducible refine (besomref09_indices.calls k _ _ l0 _ _ l3 false _ ?side1 ?side2 ?side3 ?side4 A10.out).mono ?_); (case side1 => repeat (first | exact (Kd.C_below HR0.out (by repeat (first | (with_reducible first | exact HB.out | apply below_alloc | apply pw_below_drewN | apply below_drew1) | exact HB.out))) | (with_reducible refine Kd.C_alloc ?_ _) | (with_reducible refine Kd.C_drewN ?_ _) | (with_reducible refine Kd.C_drew ?_))); (case side2 => exact HC0.out); (case side3 => repeat (first | exact (Kd.C_below HR3.out (by repeat (first | (with_reducible first | exact HB.out | apply below_alloc | apply pw_below_drewN | apply below_drew1) | exact HB.out))) | (with_reducible refine Kd.C_alloc ?_ _) | (with_reducible refine Kd.C_drewN ?_ _) | (with_reducible refine Kd.C_drew ?_))); (case side4 => exact HC3.out); rintro e w' ⟨rfl, ⟨nd, rfl⟩⟩; refine ⟨_, rfl, ?_⟩))
    go_ret3
    exact ⟨by first | rfl | (simp [errW_none, errW_some] <;> rfl) | (simp [*, errW_none, errW_some] <;> rfl), by repeat (first | (with_reducible first | exact HB.out | apply below_alloc | apply pw_below_drewN | apply below_drew1) | exact HB.out)⟩
  ·replace c9 := Bool.eq_false_iff.mpr c9
   subst c9
   have H1 : (some (false, (-1), 2)) = some (r1, r2, r3) := by rw [if_neg (show ¬ (false = true) by decide)] at H; exact H
   clear H
   have H := H1
   clear H1
   simp only [Option.some.injEq, Prod.mk.injEq] at H
   obtain ⟨rfl, rfl, rfl⟩ := H
   go_enter Tryz.func33, Tryz.ntmps33
   go_wp2_with (first | ((with_reducible refine gate_callee (f := 54) rfl ?_); refine goesL_ (some 24) rfl rfl Tryz.func54 (by kernel_rfl) rfl #[.slice A0 l0.length c0, .int .i64 a1, .slice A2 l2.length c2] rfl (by (try simp only [List.map_toArray, List.map_cons, List.map_nil]); first | done | rfl | (simp only [List.length_drop, List.length_take]; rfl)) ?_; (with_reducible refine (besomref09_asked.calls k _ _ l0 a1 _ _ l2 t363 _ ?side1 ?side2 ?side3 ?side4 A6.out).mono ?_); (case side1 => repeat (first | exact HR0.out | (with_reducible refine Kd.C_alloc ?_ _) | (with_reducible refine Kd.C_drewN ?_ _) | (with_reducible refine Kd.C_drew ?_))); (case side2 => exact HC0.out); (case side3 => repeat (first | exact HR2.out | (with_reducible refine Kd.C_alloc ?_ _) | (with_reducible refine Kd.C_drewN ?_ _) | (with_reducible refine Kd.C_drew ?_))); (case side4 => exact HC2.out); rintro e w50 ⟨rfl, hb⟩; refine ⟨_, rfl, ?_⟩; have n0_ := Aside0.mk (below_step (by repeat (first | (with_reducible first | exact HB.out | apply below_alloc | apply pw_below_drewN | apply below_drew1) | exact HB.out)) hb); clear HB; have HB := n0_; clear n0_; (try clear hb); (try clear hb2); (try clear hk); (try clear hi)) | ((with_reducible refine gate_callee (f := 44) rfl ?_); refine goesL_ (some 29) rfl rfl Tryz.func44 (by kernel_rfl) rfl #[.string a4] rfl (by (try simp only [List.map_toArray, List.map_cons, List.map_nil]); first | done | rfl | (simp only [List.length_drop, List.length_take]; rfl)) ?_; (with_reducible refine (besomref09_Name.calls k a4 false _ A8.out).mono ?_); rintro e w' ⟨rfl, ⟨nd, rfl⟩⟩; refine ⟨_, rfl, ?_⟩))
   go_ret3
   exact ⟨by first | rfl | (simp [errW_none, errW_some] <;> rfl) | (simp [*, errW_none, errW_some] <;> rfl), by repeat (first | (with_reducible first | exact HB.out | apply below_alloc | apply pw_below_drewN | apply below_drew1) | exact HB.out)⟩
 ·rw [if_neg c7] at H
  have c7b0 : (t363 == 0) = false := beq_eq_false_iff_ne.mpr c7
  have c7b1 : (t363 != 0) = true := bne_iff_ne.mpr c7
  simp only [Option.some.injEq, Prod.mk.injEq] at H
  obtain ⟨rfl, rfl, rfl⟩ := H
  go_enter Tryz.func33, Tryz.ntmps33
  go_wp2_with (first | ((with_reducible refine gate_callee (f := 54) rfl ?_); refine goesL_ (some 24) rfl rfl Tryz.func54 (by kernel_rfl) rfl #[.slice A0 l0.length c0, .int .i64 a1, .slice A2 l2.length c2] rfl (by (try simp only [List.map_toArray, List.map_cons, List.map_nil]); first | done | rfl | (simp only [List.length_drop, List.length_take]; rfl)) ?_; (with_reducible refine (besomref09_asked.calls k _ _ l0 a1 _ _ l2 t363 _ ?side1 ?side2 ?side3 ?side4 A6.out).mono ?_); (case side1 => repeat (first | exact HR0.out | (with_reducible refine Kd.C_alloc ?_ _) | (with_reducible refine Kd.C_drewN ?_ _) | (with_reducible refine Kd.C_drew ?_))); (case side2 => exact HC0.out); (case side3 => repeat (first | exact HR2.out | (with_reducible refine Kd.C_alloc ?_ _) | (with_reducible refine Kd.C_drewN ?_ _) | (with_reducible refine Kd.C_drew ?_))); (case side4 => exact HC2.out); rintro e w51 ⟨rfl, hb⟩; refine ⟨_, rfl, ?_⟩; have n0_ := Aside0.mk (below_step (by repeat (first | (with_reducible first | exact HB.out | apply below_alloc | apply pw_below_drewN | apply below_drew1) | exact HB.out)) hb); clear HB; have HB := n0_; clear n0_; (try clear hb); (try clear hb2); (try clear hk); (try clear hi)))
  go_ret3
  exact ⟨by first | rfl | (simp [errW_none, errW_some] <;> rfl) | (simp [*, errW_none, errW_some] <;> rfl), by repeat (first | (with_reducible first | exact HB.out | apply below_alloc | apply pw_below_drewN | apply below_drew1) | exact HB.out)⟩
def besomref09_joined.l0 : Nat → List ByteArray → ByteArray → Int → Option (ByteArray)
 | 0, _, _, _ => none
 | k + 1, x0, x3, x4 => if x4 < (x0.length : Int) then (if x4 > 0 then (if x3.size + 2 ≤ 9223372036854775807 then (if 0 ≤ x4 then (if (x3 ++ (⟨#[44, 32]⟩ : ByteArray)).size + (rdOf ByteArray.empty x0 x4).size ≤ 9223372036854775807 then (besomref09_joined.l0 k x0 ((x3 ++ (⟨#[44, 32]⟩ : ByteArray)) ++ (rdOf ByteArray.empty x0 x4)) (wrap64 (x4 + 1))) else (none)) else (none)) else (none)) else (if 0 ≤ x4 then (if x3.size + (rdOf ByteArray.empty x0 x4).size ≤ 9223372036854775807 then (besomref09_joined.l0 k x0 (x3 ++ (rdOf ByteArray.empty x0 x4)) (wrap64 (x4 + 1))) else (none)) else (none))) else (some x3)
def besomref09_joined.f (k : Nat) (l0 : List ByteArray) : Option (ByteArray) := besomref09_joined.l0 k l0 (⟨#[]⟩ : ByteArray) 0
set_option maxHeartbeats 8000000 in
set_option maxRecDepth 100000 in
theorem besomref09_joined.calls (k : Nat) (A0 : Option Addr) (c0 : Nat) (l0 : List ByteArray) (r : ByteArray) (w : World) (hr0 : Kd.C Kd.string w A0 l0.length l0) (hc0 : l0.length ≤ c0) (h : besomref09_joined.f k l0 = some r) :
  Calls Tryz.prog 68 #[.slice A0 l0.length c0] w fun e w' => e = .returned (.string r) ∧ Drawn0 w w' := by
 have HR0 := Aside0.mk hr0
 have HC0 := Aside0.mk hc0
 clear hr0 hc0
 have H : (besomref09_joined.l0 k l0 (⟨#[]⟩ : ByteArray) 0) = some r := h
 clear h
 have H' := Aside0.mk H
 clear H
 go_enter Tryz.func68, Tryz.ntmps68
 go_wp2
 go_loopg [3, 4] k (fun kq v3 v4 w' => ∃ (x3_1 : ByteArray) (x4_1 : Int), v3 = .string x3_1 ∧ v4 = .int .i64 x4_1 ∧ Aside0 (besomref09_joined.l0 kq l0 x3_1 x4_1 = some r) ∧ Aside0 (kq ≤ k) ∧ Drawn0 w w')
 case atStart => exact ⟨((⟨#[]⟩ : ByteArray)), (0), (by first | rfl | (simp; done) | (simp [*]; done)), (by first | rfl | (simp; done) | (simp [*]; done)), H', ⟨Nat.le_refl _⟩, by repeat (first | exact Drawn0.refl _ | apply Drawn0.step)⟩
 case round =>
  clear H'
  obtain ⟨x3_1, x4_1, rfl, rfl, HA, HK1, ⟨m1, rfl⟩⟩ := hrel
  cases gk with
  | zero => exact absurd HA.out (by simp [besomref09_joined.l0])
  | succ k1 =>
   have H := HA.out
   clear HA
   simp only [besomref09_joined.l0] at H
   by_cases c2 : x4_1 < (l0.length : Int)
   ·rw [if_pos c2] at H
    have c2b0 : decide (x4_1 < (l0.length : Int)) = true := decide_eq_true c2
    clear c2
    by_cases c3 : x4_1 > 0
    ·rw [if_pos c3] at H
     have c3b0 : decide (0 < x4_1) = true := decide_eq_true c3
     clear c3
     by_cases c4 : x3_1.size + 2 ≤ 9223372036854775807
     ·rw [if_pos c4] at H
      have c4b0 := eq_true c4
      have c4b1 : decide (x3_1.size + 2 ≤ 9223372036854775807) = true := decide_eq_true c4
      try have c4b2 : (9223372036854775807 < x3_1.size + 2) = False := eq_false (Nat.not_lt.2 c4)
      by_cases c5 : 0 ≤ x4_1
      ·rw [if_pos c5] at H
       have c5b0 : decide (0 ≤ x4_1) = true := decide_eq_true c5
       clear c5
       by_cases c6 : (x3_1 ++ (⟨#[44, 32]⟩ : ByteArray)).size + (rdOf ByteArray.empty l0 x4_1).size ≤ 9223372036854775807
       ·rw [if_pos c6] at H
        have c6b0 := eq_true c6
        have c6b1 : decide ((x3_1 ++ (⟨#[44, 32]⟩ : ByteArray)).size + (rdOf ByteArray.empty l0 x4_1).size ≤ 9223372036854775807) = true := decide_eq_true c6
        try have c6b2 : (9223372036854775807 < (x3_1 ++ (⟨#[44, 32]⟩ : ByteArray)).size + (rdOf ByteArray.empty l0 x4_1).size) = False := eq_false (Nat.not_lt.2 c6)
        have H' := Aside0.mk H
        clear H
        have p390 : 0 ≤ (x4_1 : Int) := of_decide_eq_true (by first | (with_reducible assumption) | assumption)
        have q390 : x4_1 < (l0.length : Int) := of_decide_eq_true (by first | (with_reducible assumption) | assumption)
        obtain ⟨ad390, e390, hx390_0⟩ := Kd.at_string HR0.out x4_1 p390 q390
        cases e390
        replace p390 := eq_true p390
        replace q390 := eq_true q390
        go_wp2
        go_roundg k1
        case measure => have := HK1.out; omega
        case rel => exact ⟨((x3_1 ++ (⟨#[44, 32]⟩ : ByteArray)) ++ (rdOf ByteArray.empty l0 x4_1)), (wrap64 (x4_1 + 1)), (by first | rfl | (simp; done) | (simp [*]; done)), (by first | rfl | (simp; done) | (simp [*]; done)), H', ⟨by have := HK1.out; omega⟩, by repeat (first | exact Drawn0.refl _ | apply Drawn0.step)⟩
       ·rw [if_neg c6] at H
        exact absurd H (by simp)
      ·rw [if_neg c5] at H
       exact absurd H (by simp)
     ·rw [if_neg c4] at H
      exact absurd H (by simp)
    ·rw [if_neg c3] at H
     have c3b0 : decide (0 < x4_1) = false := decide_eq_false c3
     clear c3
     by_cases c7 : 0 ≤ x4_1
     ·rw [if_pos c7] at H
      have c7b0 : decide (0 ≤ x4_1) = true := decide_eq_true c7
      clear c7
      by_cases c8 : x3_1.size + (rdOf ByteArray.empty l0 x4_1).size ≤ 9223372036854775807
      ·rw [if_pos c8] at H
       have c8b0 := eq_true c8
       have c8b1 : decide (x3_1.size + (rdOf ByteArray.empty l0 x4_1).size ≤ 9223372036854775807) = true := decide_eq_true c8
       try have c8b2 : (9223372036854775807 < x3_1.size + (rdOf ByteArray.empty l0 x4_1).size) = False := eq_false (Nat.not_lt.2 c8)
       have H' := Aside0.mk H
       clear H
       have p391 : 0 ≤ (x4_1 : Int) := of_decide_eq_true (by first | (with_reducible assumption) | assumption)
       have q391 : x4_1 < (l0.length : Int) := of_decide_eq_true (by first | (with_reducible assumption) | assumption)
       obtain ⟨ad391, e391, hx391_0⟩ := Kd.at_string HR0.out x4_1 p391 q391
       cases e391
       replace p391 := eq_true p391
       replace q391 := eq_true q391
       go_wp2
       go_roundg k1
       case measure => have := HK1.out; omega
       case rel => exact ⟨(x3_1 ++ (rdOf ByteArray.empty l0 x4_1)), (wrap64 (x4_1 + 1)), (by first | rfl | (simp; done) | (simp [*]; done)), (by first | rfl | (simp; done) | (simp [*]; done)), H', ⟨by have := HK1.out; omega⟩, by repeat (first | exact Drawn0.refl _ | apply Drawn0.step)⟩
      ·rw [if_neg c8] at H
       exact absurd H (by simp)
     ·rw [if_neg c7] at H
      exact absurd H (by simp)
   ·rw [if_neg c2] at H
    have c2b0 : decide (x4_1 < (l0.length : Int)) = false := decide_eq_false c2
    clear c2
    obtain rfl := Option.some.inj H
    go_wp2
    go_ret
    exact ⟨by first | rfl | (simp; done) | (simp [*]; done), by repeat (first | exact Drawn0.refl _ | apply Drawn0.step)⟩
end
end Go.Proofs.YtlhkeohcickiaaaGreatDoor.E

