/- LawProtestModel, part 32 of 37: my texts (walks of the program over sparse frames, plain laws, and texts that print.py printed for this seat), without what the statement does not reach. -/
import Derived.Test.YtlhkeohcickiaaaGreatDoorKM16
import Derived.Test.YtlhkeohcickiaaaGreatDoorKM18
import Derived.Test.YtlhkeohcickiaaaGreatDoorKM20
import Derived.Test.YtlhkeohcickiaaaGreatDoorKM21
import Derived.Test.YtlhkeohcickiaaaGreatDoorKM29
import Derived.Test.YtlhkeohcickiaaaGreatDoorKM30
import Derived.Test.YtlhkeohcickiaaaGreatDoorKM31
import Derived.Test.YtlhkeohcickiaaaGreatDoorKM28
set_option linter.all false
namespace Go.Proofs.YtlhkeohcickiaaaGreatDoor.E
open Go.RowKit Go.Proofs.YtlhkeohcickiaaaGreatDoorW.PrintWords Go.Proofs.YtlhkeohcickiaaaGreatDoorW.PrintLast Go.Proofs.YtlhkeohcickiaaaGreatDoorW.PrintMore
section
attribute [local go_sem] max2_int min2_int max_two min_two max_three min_three max_four min_four   -- for this text's walks alone
attribute [local go_sem] Go.Proofs.YtlhkeohcickiaaaGreatDoor.H.leq_str Go.Proofs.YtlhkeohcickiaaaGreatDoor.H.gtr_str Go.Proofs.YtlhkeohcickiaaaGreatDoor.H.geq_str
mutual
noncomputable def besomlaw09_ProtestModel.j0 : Nat → List (S25) → Int → List ByteArray → Int → Int → List ByteArray → Bool → Option (Bool)
 | 0, _, _, _, _, _, _, _ => none
 | k + 1, x0, x1, x2, x3, x4, x11, x53 => if x53 = true then (some false) else (besomlaw09_ProtestModel.l0 k x0 x1 x2 x3 x4 x11 ([] : List ByteArray) 0)
noncomputable def besomlaw09_ProtestModel.l0 : Nat → List (S25) → Int → List ByteArray → Int → Int → List ByteArray → List ByteArray → Int → Option (Bool)
 | 0, _, _, _, _, _, _, _, _ => none
 | k + 1, x0, x1, x2, x3, x4, x11, x13, x14 => if x14 < (x0.length : Int) then (if 0 ≤ x14 then ((besomref09_Fires.f k ((rd_T25 x0 x14).f0) ((rd_T25 x0 x14).f1) ((rd_T25 x0 x14).f2) ((rd_T25 x0 x14).f3) ((rd_T25 x0 x14).f4) ((rd_T25 x0 x14).f5) x1 x11).bind fun t262 => (if t262 = true then (if x13.length < 8796093022208 then (besomlaw09_ProtestModel.l0 k x0 x1 x2 x3 x4 x11 (x13 ++ [(rd_T25 x0 x14).f5]) (wrap64 (x14 + 1))) else (none)) else (besomlaw09_ProtestModel.l0 k x0 x1 x2 x3 x4 x11 x13 (wrap64 (x14 + 1))))) else (none)) else ((besomref09_Less.f k x13 x11).bind fun t267 => (if (t267.length : Int) > 0 then (besomlaw09_ProtestModel.j2 k x0 x1 x2 x3 x4 x11 true) else ((some (([] : List ByteArray) : List ByteArray)).bind fun y270 => (if y270.length + x2.length < 8796093022208 then ((some (y270 ++ x2 : List ByteArray)).bind fun y273 => (if y273.length + x13.length < 8796093022208 then ((besomref09_Less.f k x11 (y273 ++ x13)).bind fun t279 => (besomlaw09_ProtestModel.j2 k x0 x1 x2 x3 x4 x11 (decide ((t279.length : Int) > 0)))) else (none))) else (none)))))
noncomputable def besomlaw09_ProtestModel.j2 : Nat → List (S25) → Int → List ByteArray → Int → Int → List ByteArray → Bool → Option (Bool)
 | 0, _, _, _, _, _, _, _ => none
 | k + 1, x0, x1, x2, x3, x4, x11, x90 => if x90 = true then (some false) else (if (x11.length : Int) = 0 then ((besomlaw09_awake.f).bind fun t282 => (some t282)) else (if 0 ≤ (Int.tmod (wrap64 (x3)) (x11.length : Int)) then (if (Int.tmod (wrap64 (x3)) (x11.length : Int)) < (x11.length : Int) then ((protest_Why.f x0 x1 x2 (rdOf ByteArray.empty x11 (Int.tmod (wrap64 (x3)) (x11.length : Int)))).bind fun bt284 => ((protest_Proves.f x0 x1 x2 bt284.1 (rdOf ByteArray.empty x11 (Int.tmod (wrap64 (x3)) (x11.length : Int)))).bind fun bt288 => (if bt284.2 = 0 then (if bt288.2.2 = 0 then (if bt288.1 = true then (if bt288.2.1 = (-1) then ((besomref09_Has.f k x2 (rdOf ByteArray.empty x11 (Int.tmod (wrap64 (x3)) (x11.length : Int)))).bind fun t291 => (besomlaw09_ProtestModel.j3 k x0 x1 x2 x4 (rdOf ByteArray.empty x11 (Int.tmod (wrap64 (x3)) (x11.length : Int))) bt284.1 (((bt284.1.length : Int) == 0) != t291))) else (besomlaw09_ProtestModel.j3 k x0 x1 x2 x4 (rdOf ByteArray.empty x11 (Int.tmod (wrap64 (x3)) (x11.length : Int))) bt284.1 true)) else (besomlaw09_ProtestModel.j3 k x0 x1 x2 x4 (rdOf ByteArray.empty x11 (Int.tmod (wrap64 (x3)) (x11.length : Int))) bt284.1 true)) else (besomlaw09_ProtestModel.j3 k x0 x1 x2 x4 (rdOf ByteArray.empty x11 (Int.tmod (wrap64 (x3)) (x11.length : Int))) bt284.1 true)) else (besomlaw09_ProtestModel.j3 k x0 x1 x2 x4 (rdOf ByteArray.empty x11 (Int.tmod (wrap64 (x3)) (x11.length : Int))) bt284.1 true)))) else (none)) else (none)))
noncomputable def besomlaw09_ProtestModel.j3 : Nat → List (S25) → Int → List ByteArray → Int → ByteArray → List Int → Bool → Option (Bool)
 | 0, _, _, _, _, _, _, _ => none
 | k + 1, x0, x1, x2, x4, x15, x16, x143 => if x143 = true then (some false) else (if (x16.length : Int) = 0 then ((besomlaw09_awake.f).bind fun t292 => (some t292)) else ((some (([] : List Int) : List Int)).bind fun y293 => (if 0 ≤ (Int.tmod (wrap64 (x4)) (x16.length : Int)) then (if (Int.tmod (wrap64 (x4)) (x16.length : Int)) ≤ (x16.length : Int) then ((some (x16.take ((Int.tmod (wrap64 (x4)) (x16.length : Int)) : Int).toNat : List Int)).bind fun y296 => (if y293.length + y296.length < 17592186044416 then ((some (y293 ++ y296 : List Int)).bind fun y300 => (if 0 ≤ (wrap64 ((Int.tmod (wrap64 (x4)) (x16.length : Int)) + 1)) then (if (wrap64 ((Int.tmod (wrap64 (x4)) (x16.length : Int)) + 1)) ≤ (x16.length : Int) then ((some (x16.drop ((wrap64 ((Int.tmod (wrap64 (x4)) (x16.length : Int)) + 1)) : Int).toNat : List Int)).bind fun y303 => (if y300.length + y303.length < 17592186044416 then ((protest_Proves.f x0 x1 x2 (y300 ++ y303) x15).bind fun bt310 => (if bt310.1 = true then (some false) else (if bt310.2.2 = 0 then ((besomlaw09_awake.f).bind fun t313 => (some t313)) else (some false)))) else (none))) else (none)) else (none))) else (none))) else (none)) else (none))))
end
noncomputable def besomlaw09_ProtestModel.f (k : Nat) (l0 : List (S25)) (a1 : Int) (l2 : List ByteArray) (a3 : Int) (a4 : Int) : Option (Bool) := (besomlaw09_great.f k l0 l2).bind fun t247 => (if t247 = true then ((besomlaw09_awake.f).bind fun t248 => (some t248)) else ((protest_Holds.f l0 a1 l2).bind fun bt249 => (if bt249.2 = 0 then ((besomref09_Rising.f k bt249.1).bind fun t254 => ((besomref09_Same.f k t254 bt249.1).bind fun t257 => (if t257 = true then ((besomref09_Less.f k l2 bt249.1).bind fun t258 => (besomlaw09_ProtestModel.j0 k l0 a1 l2 a3 a4 bt249.1 (decide ((t258.length : Int) > 0)))) else (besomlaw09_ProtestModel.j0 k l0 a1 l2 a3 a4 bt249.1 true)))) else (if (bt249.1.length : Int) = 0 then ((besomlaw09_awake.f).bind fun t253 => (some t253)) else (some false)))))
noncomputable def besomlaw09_ProtestModel.T26 : Bool × List (List Nat × List Nat) := (true, [([], []), ([], []), ([], []), ([1, 2], [1, 2]), ([0, 3], [0, 3]), ([], []), ([], []), ([6], [6]), ([5, 7], [5, 7]), ([4, 8, 4], [4, 8]), ([9, 9, 0, 1, 2, 3, 4, 5, 6, 7, 8, 9], [9])])
noncomputable def besomlaw09_ProtestModel.B26 : List Nat := [0, 0, 0, 6, 15, 0, 0, 64, 224, 511, 1023]
theorem besomlaw09_ProtestModel.tab26 : rtab .any (opsOf Tryz.f5 26) = besomlaw09_ProtestModel.T26 := by kernel_rfl
theorem besomlaw09_ProtestModel.bits26 : waitsOk besomlaw09_ProtestModel.T26.2 besomlaw09_ProtestModel.B26 = true := by kernel_rfl
set_option maxHeartbeats 8000000 in
set_option maxRecDepth 100000 in
theorem besomlaw09_ProtestModel.calls (k : Nat) (A0 : Option Addr) (c0 : Nat) (l0 : List (S25)) (a1 : Int) (A2 : Option Addr) (c2 : Nat) (l2 : List ByteArray) (a3 : Int) (a4 : Int) (r : Bool) (w : World) (hr0 : Kd.C k25 w A0 l0.length l0) (hc0 : l0.length ≤ c0) (hr2 : Kd.C Kd.string w A2 l2.length l2) (hc2 : l2.length ≤ c2) (h : besomlaw09_ProtestModel.f k l0 a1 l2 a3 a4 = some r) :
  Calls Tryz.prog 5 #[.slice A0 l0.length c0, .int .i64 a1, .slice A2 l2.length c2, .int .u8 a3, .int .u8 a4] w fun e w' => e = .returned (.bool r) ∧ Below w.heap.size w w' := by
 have hu25 := Tryz.underlying25
 have HR0 := Aside0.mk hr0
 have HC0 := Aside0.mk hc0
 clear hr0 hc0
 have HR2 := Aside0.mk hr2
 have HC2 := Aside0.mk hc2
 clear hr2 hc2
 have HB := Aside0.mk (Below.refl w.heap.size w)
 have H : ((besomlaw09_great.f k l0 l2).bind fun t247 => (if t247 = true then ((besomlaw09_awake.f).bind fun t248 => (some t248)) else ((protest_Holds.f l0 a1 l2).bind fun bt249 => (if bt249.2 = 0 then ((besomref09_Rising.f k bt249.1).bind fun t254 => ((besomref09_Same.f k t254 bt249.1).bind fun t257 => (if t257 = true then ((besomref09_Less.f k l2 bt249.1).bind fun t258 => (besomlaw09_ProtestModel.j0 k l0 a1 l2 a3 a4 bt249.1 (decide ((t258.length : Int) > 0)))) else (besomlaw09_ProtestModel.j0 k l0 a1 l2 a3 a4 bt249.1 true)))) else (if (bt249.1.length : Int) = 0 then ((besomlaw09_awake.f).bind fun t253 => (some t253)) else (some false)))))) = some r := h
 clear h
 replace H := Option.bind_eq_some_iff.mp H
 obtain ⟨t247, A60, H⟩ := H
 replace H : (if t247 = true then ((besomlaw09_awake.f).bind fun t248 => (some t248)) else ((protest_Holds.f l0 a1 l2).bind fun bt249 => (if bt249.2 = 0 then ((besomref09_Rising.f k bt249.1).bind fun t254 => ((besomref09_Same.f k t254 bt249.1).bind fun t257 => (if t257 = true then ((besomref09_Less.f k l2 bt249.1).bind fun t258 => (besomlaw09_ProtestModel.j0 k l0 a1 l2 a3 a4 bt249.1 (decide ((t258.length : Int) > 0)))) else (besomlaw09_ProtestModel.j0 k l0 a1 l2 a3 a4 bt249.1 true)))) else (if (bt249.1.length : Int) = 0 then ((besomlaw09_awake.f).bind fun t253 => (some t253)) else (some false))))) = some r := H
 have A6 := Aside0.mk A60
 clear A60
 by_cases c7 : t247 = true
 ·subst c7
  have H1 : ((besomlaw09_awake.f).bind fun t248 => (some t248)) = some r := by rw [if_pos rfl] at H; exact H
  clear H
  have H := H1
  clear H1
  replace H := Option.bind_eq_some_iff.mp H
  obtain ⟨t248, A80, H⟩ := H
  replace H : (some t248) = some r := H
  have A8 := Aside0.mk A80
  clear A80
  obtain rfl := Option.some.inj H
  go_enter Tryz.func5, Tryz.ntmps5
  go_wp2_with (first | ((with_reducible refine gate_callee (f := 10) rfl ?_); refine goesL_ (some 25) rfl rfl Tryz.func10 (by kernel_rfl) rfl #[.slice A0 l0.length c0, .slice A2 l2.length c2] rfl (by (try simp only [List.map_toArray, List.map_cons, List.map_nil]); first | done | rfl | (simp only [List.length_drop, List.length_take]; rfl)) ?_; (with_reducible refine (besomlaw09_great.calls k _ _ l0 _ _ l2 true _ ?side1 ?side2 ?side3 ?side4 A6.out).mono ?_); (case side1 => repeat (first | exact HR0.out | (with_reducible refine Kd.C_alloc ?_ _) | (with_reducible refine Kd.C_drewN ?_ _) | (with_reducible refine Kd.C_drew ?_))); (case side2 => exact HC0.out); (case side3 => repeat (first | exact HR2.out | (with_reducible refine Kd.C_alloc ?_ _) | (with_reducible refine Kd.C_drewN ?_ _) | (with_reducible refine Kd.C_drew ?_))); (case side4 => exact HC2.out); rintro e w' ⟨rfl, ⟨nd, rfl⟩⟩; refine ⟨_, rfl, ?_⟩) | ((with_reducible refine gate_callee (f := 11) rfl ?_); refine goesL_ (some 26) rfl rfl Tryz.func11 (by kernel_rfl) rfl #[] rfl (by (try simp only [List.map_toArray, List.map_cons, List.map_nil]); first | done | rfl | (simp only [List.length_drop, List.length_take]; rfl)) ?_; (with_reducible refine (besomlaw09_awake.calls  t248 _ A8.out).mono ?_); rintro e w9 ⟨rfl, hb⟩; refine ⟨_, rfl, ?_⟩; have n0_ := Aside0.mk (below_step (by repeat (first | (with_reducible first | exact HB.out | apply below_alloc | apply pw_below_drewN | apply below_drew1) | exact HB.out)) hb); clear HB; have HB := n0_; clear n0_; (try clear hb); (try clear hb2); (try clear hk); (try clear hi)))
  go_ret
  exact ⟨by first | rfl | (simp [errW_none, errW_some] <;> rfl) | (simp [*, errW_none, errW_some] <;> rfl), by repeat (first | (with_reducible first | exact HB.out | apply below_alloc | apply pw_below_drewN | apply below_drew1) | exact HB.out)⟩
 ·replace c7 := Bool.eq_false_iff.mpr c7
  subst c7
  have H1 : ((protest_Holds.f l0 a1 l2).bind fun bt249 => (if bt249.2 = 0 then ((besomref09_Rising.f k bt249.1).bind fun t254 => ((besomref09_Same.f k t254 bt249.1).bind fun t257 => (if t257 = true then ((besomref09_Less.f k l2 bt249.1).bind fun t258 => (besomlaw09_ProtestModel.j0 k l0 a1 l2 a3 a4 bt249.1 (decide ((t258.length : Int) > 0)))) else (besomlaw09_ProtestModel.j0 k l0 a1 l2 a3 a4 bt249.1 true)))) else (if (bt249.1.length : Int) = 0 then ((besomlaw09_awake.f).bind fun t253 => (some t253)) else (some false)))) = some r := by rw [if_neg (show ¬ (false = true) by decide)] at H; exact H
  clear H
  have H := H1
  clear H1
  replace H := Option.bind_eq_some_iff.mp H
  obtain ⟨⟨t249, t250⟩, A100, H⟩ := H
  replace H : (if t250 = 0 then ((besomref09_Rising.f k t249).bind fun t254 => ((besomref09_Same.f k t254 t249).bind fun t257 => (if t257 = true then ((besomref09_Less.f k l2 t249).bind fun t258 => (besomlaw09_ProtestModel.j0 k l0 a1 l2 a3 a4 t249 (decide ((t258.length : Int) > 0)))) else (besomlaw09_ProtestModel.j0 k l0 a1 l2 a3 a4 t249 true)))) else (if (t249.length : Int) = 0 then ((besomlaw09_awake.f).bind fun t253 => (some t253)) else (some false))) = some r := H
  have A10 := Aside0.mk A100
  clear A100
  by_cases c11 : t250 = 0
  ·rw [if_pos c11] at H
   have c11b0 : (t250 == 0) = true := beq_iff_eq.mpr c11
   have c11b1 : (t250 != 0) = false := bne_eq_false_iff_eq.mpr c11
   clear c11
   have HC12 := Aside0.mk H
   clear H
   go_enter Tryz.func5, Tryz.ntmps5
   go_upto_region 6 with (first | ((with_reducible refine gate_callee (f := 10) rfl ?_); refine goesL_ (some 25) rfl rfl Tryz.func10 (by kernel_rfl) rfl #[.slice A0 l0.length c0, .slice A2 l2.length c2] rfl (by (try simp only [List.map_toArray, List.map_cons, List.map_nil]); first | done | rfl | (simp only [List.length_drop, List.length_take]; rfl)) ?_; (with_reducible refine (besomlaw09_great.calls k _ _ l0 _ _ l2 false _ ?side1 ?side2 ?side3 ?side4 A6.out).mono ?_); (case side1 => repeat (first | exact HR0.out | (with_reducible refine Kd.C_alloc ?_ _) | (with_reducible refine Kd.C_drewN ?_ _) | (with_reducible refine Kd.C_drew ?_))); (case side2 => exact HC0.out); (case side3 => repeat (first | exact HR2.out | (with_reducible refine Kd.C_alloc ?_ _) | (with_reducible refine Kd.C_drewN ?_ _) | (with_reducible refine Kd.C_drew ?_))); (case side4 => exact HC2.out); rintro e w' ⟨rfl, ⟨nd, rfl⟩⟩; refine ⟨_, rfl, ?_⟩) | ((with_reducible refine gate_callee (f := 18) rfl ?_); refine goesL_ (some 31) rfl rfl Tryz.func18 (by kernel_rfl) rfl #[.slice A0 l0.length c0, .int .i64 a1, .slice A2 l2.length c2] rfl (by (try simp only [List.map_toArray, List.map_cons, List.map_nil]); first | done | rfl | (simp only [List.length_drop, List.length_take]; rfl)) ?_; (with_reducible refine (protest_Holds.calls _ _ l0 a1 _ _ l2 t249 t250 _ ?side1 ?side2 ?side3 ?side4 A10.out).mono ?_); (case side1 => repeat (first | exact HR0.out | (with_reducible refine Kd.C_alloc ?_ _) | (with_reducible refine Kd.C_drewN ?_ _) | (with_reducible refine Kd.C_drew ?_))); (case side2 => exact HC0.out); (case side3 => repeat (first | exact HR2.out | (with_reducible refine Kd.C_alloc ?_ _) | (with_reducible refine Kd.C_drewN ?_ _) | (with_reducible refine Kd.C_drew ?_))); (case side4 => exact HC2.out); rintro e w13 ⟨v251, rfl, ho0, hb⟩; refine ⟨_, rfl, ?_⟩; have n0_ := Aside0.mk (Kd.R_lower ho0 (below_size (by repeat (first | (with_reducible first | exact HB.out | apply below_alloc | apply pw_below_drewN | apply below_drew1) | exact HB.out)))); have n1_ := Aside0.mk (below_step (by repeat (first | (with_reducible first | exact HB.out | apply below_alloc | apply pw_below_drewN | apply below_drew1) | exact HB.out)) hb); clear HB; have HO252 := n0_; have HB := n1_; clear n0_ n1_; (try clear hb); (try clear hb2); (try clear hk); (try clear hi); (try clear ho0)))
   (try simp only [Act.put, List.setIfInBounds_toArray, List.set_cons_zero, List.set_cons_succ])
   go_cut [53] (fun v53 wc => ∃ (kq : Nat) (x53_11 : Bool), v53 = .bool x53_11 ∧ Aside0 (besomlaw09_ProtestModel.j0 kq l0 a1 l2 a3 a4 t249 x53_11 = some r) ∧ Aside0 (kq ≤ k) ∧ Aside0 (Kd.R Kd.string 9 wc w.heap.size (fun _ => True) v251 t249) ∧ Aside0 (Below w.heap.size w wc))
   case first =>
    have H := HC12.out
    clear HC12
    replace H := Option.bind_eq_some_iff.mp H
    obtain ⟨t254, A140, H⟩ := H
    replace H : ((besomref09_Same.f k t254 t249).bind fun t257 => (if t257 = true then ((besomref09_Less.f k l2 t249).bind fun t258 => (besomlaw09_ProtestModel.j0 k l0 a1 l2 a3 a4 t249 (decide ((t258.length : Int) > 0)))) else (besomlaw09_ProtestModel.j0 k l0 a1 l2 a3 a4 t249 true))) = some r := H
    have A14 := Aside0.mk A140
    clear A140
    replace H := Option.bind_eq_some_iff.mp H
    obtain ⟨t257, A150, H⟩ := H
    replace H : (if t257 = true then ((besomref09_Less.f k l2 t249).bind fun t258 => (besomlaw09_ProtestModel.j0 k l0 a1 l2 a3 a4 t249 (decide ((t258.length : Int) > 0)))) else (besomlaw09_ProtestModel.j0 k l0 a1 l2 a3 a4 t249 true)) = some r := H
    have A15 := Aside0.mk A150
    clear A150
    by_cases c16 : t257 = true
    ·subst c16
     have H1 : ((besomref09_Less.f k l2 t249).bind fun t258 => (besomlaw09_ProtestModel.j0 k l0 a1 l2 a3 a4 t249 (decide ((t258.length : Int) > 0)))) = some r := by rw [if_pos rfl] at H; exact H
     clear H
     have H := H1
     clear H1
     replace H := Option.bind_eq_some_iff.mp H
     obtain ⟨t258, A170, H⟩ := H
     replace H : (besomlaw09_ProtestModel.j0 k l0 a1 l2 a3 a4 t249 (decide ((t258.length : Int) > 0))) = some r := H
     have A17 := Aside0.mk A170
     clear A170
     have H' := Aside0.mk H
     clear H
     obtain ⟨Ao18, co18, eo18⟩ := Kd.R_slice HO252.out
     subst eo18
     go_wp2_with (first | ((with_reducible refine gate_callee (f := 26) rfl ?_); refine goesL_ (some 43) rfl rfl Tryz.func26 (by kernel_rfl) rfl #[.slice Ao18 t249.length co18] rfl (by (try simp only [List.map_toArray, List.map_cons, List.map_nil]); first | done | rfl | (simp only [List.length_drop, List.length_take]; rfl)) ?_; (with_reducible refine (besomref09_Rising.calls k _ _ t249 t254 _ ?side1 ?side2 A14.out).mono ?_); (case side1 => repeat (first | exact (Kd.R_reads' HO252.out).2.2 | (with_reducible refine Kd.C_alloc ?_ _) | (with_reducible refine Kd.C_drewN ?_ _) | (with_reducible refine Kd.C_drew ?_))); (case side2 => exact (Kd.R_reads' HO252.out).2.1); rintro e w19 ⟨v255, rfl, ho0, hb⟩; refine ⟨_, rfl, ?_⟩; have n0_ := Aside0.mk (Kd.R_elder' (by (with_reducible repeat (first | apply Kd.R_alloc | apply Kd.R_drewN | apply Kd.R_drew)); exact HO252.out) (Kd.R_base ho0) hb); have n1_ := Aside0.mk (Kd.R_lower (Kd.R_new' ho0 (Kd.R_lt (by (with_reducible repeat (first | apply Kd.R_alloc | apply Kd.R_drewN | apply Kd.R_drew)); exact HO252.out))) (below_size (by repeat (first | (with_reducible first | exact HB.out | apply below_alloc | apply pw_below_drewN | apply below_drew1) | exact HB.out)))); have n2_ := Aside0.mk (below_step (by repeat (first | (with_reducible first | exact HB.out | apply below_alloc | apply pw_below_drewN | apply below_drew1) | exact HB.out)) hb); clear HO252; clear HB; have HO252 := n0_; have HO256 := n1_; have HB := n2_; clear n0_ n1_ n2_; (try clear hb); (try clear hb2); (try clear hk); (try clear hi); (try clear ho0); obtain ⟨Ao20, co20, eo20⟩ := Kd.R_slice HO256.out; subst eo20) | ((with_reducible refine gate_callee (f := 24) rfl ?_); refine goesL_ (some 45) rfl rfl Tryz.func24 (by kernel_rfl) rfl #[.slice Ao20 t254.length co20, .slice Ao18 t249.length co18] rfl (by (try simp only [List.map_toArray, List.map_cons, List.map_nil]); first | done | rfl | (simp only [List.length_drop, List.length_take]; rfl)) ?_; (with_reducible refine (besomref09_Same.calls k _ _ t254 _ _ t249 true _ ?side1 ?side2 ?side3 ?side4 A15.out).mono ?_); (case side1 => repeat (first | exact (Kd.R_reads' HO256.out).2.2 | (with_reducible refine Kd.C_alloc ?_ _) | (with_reducible refine Kd.C_drewN ?_ _) | (with_reducible refine Kd.C_drew ?_))); (case side2 => exact (Kd.R_reads' HO256.out).2.1); (case side3 => repeat (first | exact (Kd.R_reads' HO252.out).2.2 | (with_reducible refine Kd.C_alloc ?_ _) | (with_reducible refine Kd.C_drewN ?_ _) | (with_reducible refine Kd.C_drew ?_))); (case side4 => exact (Kd.R_reads' HO252.out).2.1); rintro e w' ⟨rfl, ⟨nd, rfl⟩⟩; refine ⟨_, rfl, ?_⟩) | (go_at_call 27; (with_reducible refine (besomref09_Less.calls k _ _ l2 _ _ t249 t258 _ ?side1 ?side2 ?side3 ?side4 A17.out).mono ?_); (case side1 => repeat (first | exact (Kd.C_below HR2.out (by repeat (first | (with_reducible first | exact HB.out | apply below_alloc | apply pw_below_drewN | apply below_drew1) | exact HB.out))) | (with_reducible refine Kd.C_alloc ?_ _) | (with_reducible refine Kd.C_drewN ?_ _) | (with_reducible refine Kd.C_drew ?_))); (case side2 => exact HC2.out); (case side3 => repeat (first | exact (Kd.R_reads' HO252.out).2.2 | (with_reducible refine Kd.C_alloc ?_ _) | (with_reducible refine Kd.C_drewN ?_ _) | (with_reducible refine Kd.C_drew ?_))); (case side4 => exact (Kd.R_reads' HO252.out).2.1); rintro e w21 ⟨v259, rfl, ho0, hb⟩; have n0_ := Aside0.mk (Kd.R_elder' (by (with_reducible repeat (first | apply Kd.R_alloc | apply Kd.R_drewN | apply Kd.R_drew)); exact HO252.out) (Kd.R_base ho0) hb); have n1_ := Aside0.mk (Kd.R_elder' (by (with_reducible repeat (first | apply Kd.R_alloc | apply Kd.R_drewN | apply Kd.R_drew)); exact HO256.out) (Kd.R_base ho0) hb); have n2_ := Aside0.mk (Kd.R_lower (Kd.R_new' (Kd.R_new' ho0 (Kd.R_lt (by (with_reducible repeat (first | apply Kd.R_alloc | apply Kd.R_drewN | apply Kd.R_drew)); exact HO252.out))) (Kd.R_lt (by (with_reducible repeat (first | apply Kd.R_alloc | apply Kd.R_drewN | apply Kd.R_drew)); exact HO256.out))) (below_size (by repeat (first | (with_reducible first | exact HB.out | apply below_alloc | apply pw_below_drewN | apply below_drew1) | exact HB.out)))); have n3_ := Aside0.mk (below_step (by repeat (first | (with_reducible first | exact HB.out | apply below_alloc | apply pw_below_drewN | apply below_drew1) | exact HB.out)) hb); clear HO252; clear HO256; clear HB; have HO252 := n0_; have HO256 := n1_; have HO260 := n2_; have HB := n3_; clear n0_ n1_ n2_ n3_; (try clear hb); (try clear hb2); (try clear hk); (try clear hi); (try clear ho0); obtain ⟨Ao22, co22, eo22⟩ := Kd.R_slice HO260.out; subst eo22))
     go_meet
     case rel => exact ⟨_, (decide ((t258.length : Int) > 0)), (by first | rfl | (simp; done) | (simp [*]; done)), H', ⟨by first | omega | exact Nat.le_refl _⟩, ⟨by (with_reducible repeat (first | apply Kd.R_alloc | apply Kd.R_drewN | apply Kd.R_drew)); exact Kd.R_mono HO252.out (fun _ hk => trivial)⟩, ⟨by repeat (first | (with_reducible first | exact HB.out | apply below_alloc | apply pw_below_drewN | apply below_drew1) | exact HB.out)⟩⟩
    ·replace c16 := Bool.eq_false_iff.mpr c16
     subst c16
     have H1 : (besomlaw09_ProtestModel.j0 k l0 a1 l2 a3 a4 t249 true) = some r := by rw [if_neg (show ¬ (false = true) by decide)] at H; exact H
     clear H
     have H := H1
     clear H1
     have H' := Aside0.mk H
     clear H
     obtain ⟨Ao23, co23, eo23⟩ := Kd.R_slice HO252.out
     subst eo23
     go_wp2_with (first | ((with_reducible refine gate_callee (f := 26) rfl ?_); refine goesL_ (some 43) rfl rfl Tryz.func26 (by kernel_rfl) rfl #[.slice Ao23 t249.length co23] rfl (by (try simp only [List.map_toArray, List.map_cons, List.map_nil]); first | done | rfl | (simp only [List.length_drop, List.length_take]; rfl)) ?_; (with_reducible refine (besomref09_Rising.calls k _ _ t249 t254 _ ?side1 ?side2 A14.out).mono ?_); (case side1 => repeat (first | exact (Kd.R_reads' HO252.out).2.2 | (with_reducible refine Kd.C_alloc ?_ _) | (with_reducible refine Kd.C_drewN ?_ _) | (with_reducible refine Kd.C_drew ?_))); (case side2 => exact (Kd.R_reads' HO252.out).2.1); rintro e w24 ⟨v255, rfl, ho0, hb⟩; refine ⟨_, rfl, ?_⟩; have n0_ := Aside0.mk (Kd.R_elder' (by (with_reducible repeat (first | apply Kd.R_alloc | apply Kd.R_drewN | apply Kd.R_drew)); exact HO252.out) (Kd.R_base ho0) hb); have n1_ := Aside0.mk (Kd.R_lower (Kd.R_new' ho0 (Kd.R_lt (by (with_reducible repeat (first | apply Kd.R_alloc | apply Kd.R_drewN | apply Kd.R_drew)); exact HO252.out))) (below_size (by repeat (first | (with_reducible first | exact HB.out | apply below_alloc | apply pw_below_drewN | apply below_drew1) | exact HB.out)))); have n2_ := Aside0.mk (below_step (by repeat (first | (with_reducible first | exact HB.out | apply below_alloc | apply pw_below_drewN | apply below_drew1) | exact HB.out)) hb); clear HO252; clear HB; have HO252 := n0_; have HO256 := n1_; have HB := n2_; clear n0_ n1_ n2_; (try clear hb); (try clear hb2); (try clear hk); (try clear hi); (try clear ho0); obtain ⟨Ao25, co25, eo25⟩ := Kd.R_slice HO256.out; subst eo25) | ((with_reducible refine gate_callee (f := 24) rfl ?_); refine goesL_ (some 45) rfl rfl Tryz.func24 (by kernel_rfl) rfl #[.slice Ao25 t254.length co25, .slice Ao23 t249.length co23] rfl (by (try simp only [List.map_toArray, List.map_cons, List.map_nil]); first | done | rfl | (simp only [List.length_drop, List.length_take]; rfl)) ?_; (with_reducible refine (besomref09_Same.calls k _ _ t254 _ _ t249 false _ ?side1 ?side2 ?side3 ?side4 A15.out).mono ?_); (case side1 => repeat (first | exact (Kd.R_reads' HO256.out).2.2 | (with_reducible refine Kd.C_alloc ?_ _) | (with_reducible refine Kd.C_drewN ?_ _) | (with_reducible refine Kd.C_drew ?_))); (case side2 => exact (Kd.R_reads' HO256.out).2.1); (case side3 => repeat (first | exact (Kd.R_reads' HO252.out).2.2 | (with_reducible refine Kd.C_alloc ?_ _) | (with_reducible refine Kd.C_drewN ?_ _) | (with_reducible refine Kd.C_drew ?_))); (case side4 => exact (Kd.R_reads' HO252.out).2.1); rintro e w' ⟨rfl, ⟨nd, rfl⟩⟩; refine ⟨_, rfl, ?_⟩))
     go_meet
     case rel => exact ⟨_, (true), (by first | rfl | (simp; done) | (simp [*]; done)), H', ⟨by first | omega | exact Nat.le_refl _⟩, ⟨by (with_reducible repeat (first | apply Kd.R_alloc | apply Kd.R_drewN | apply Kd.R_drew)); exact Kd.R_mono HO252.out (fun _ hk => trivial)⟩, ⟨by repeat (first | (with_reducible first | exact HB.out | apply below_alloc | apply pw_below_drewN | apply below_drew1) | exact HB.out)⟩⟩
   case rest =>
    clear HC12
    try clear c1
    try clear c2
    try clear p2
    try clear c5
    try clear c7
    try clear c10
    try clear c11
    try clear c11b0
    try clear c11b1
    try clear c16
    try clear c18
    try clear c24
    obtain ⟨kq, x53_11, rfl, HA, HJ11, HO_11, HB⟩ := hcut
    cases kq with
    | zero => exact absurd HA.out (by simp [besomlaw09_ProtestModel.j0])
    | succ kj11 =>
     have H := HA.out
     clear HA
     simp only [besomlaw09_ProtestModel.j0] at H
     by_cases c26 : x53_11 = true
     ·subst c26
      have H1 : (some false) = some r := by rw [if_pos rfl] at H; exact H
      clear H
      have H := H1
      clear H1
      obtain rfl := Option.some.inj H
      go_wp2
      go_ret
      exact ⟨by first | rfl | (simp [errW_none, errW_some] <;> rfl) | (simp [*, errW_none, errW_some] <;> rfl), by repeat (first | (with_reducible first | exact HB.out | apply below_alloc | apply pw_below_drewN | apply below_drew1) | exact HB.out)⟩
     ·replace c26 := Bool.eq_false_iff.mpr c26
      subst c26
      have H1 : (besomlaw09_ProtestModel.l0 kj11 l0 a1 l2 a3 a4 t249 ([] : List ByteArray) 0) = some r := by rw [if_neg (show ¬ (false = true) by decide)] at H; exact H
      clear H
      have H := H1
      clear H1
      have H' := Aside0.mk H
      clear H
      go_wp2
      go_loopg [13, 14] kj11 (fun kq v13 v14 w' => ∃ (x13_2 : List ByteArray) (x14_2 : Int), v14 = .int .i64 x14_2 ∧ Aside0 (besomlaw09_ProtestModel.l0 kq l0 a1 l2 a3 a4 t249 x13_2 x14_2 = some r) ∧ Aside0 (kq ≤ kj11) ∧ Aside0 (Kd.R Kd.string 9 w' w.heap.size (fun k_ => some k_ ≠ (v13 : Value).ownBlock) v251 t249) ∧ Aside0 (Kd.R Kd.string 9 w' w.heap.size (fun k_ => some k_ ≠ (v251 : Value).ownBlock) v13 x13_2) ∧ Aside0 (Below w.heap.size w w'))
      case atStart => exact ⟨(([] : List ByteArray)), (0), (by first | rfl | (simp; done) | (simp [*]; done)), H', ⟨Nat.le_refl _⟩, ⟨by (with_reducible repeat (first | apply Kd.R_alloc | apply Kd.R_drewN | apply Kd.R_drew)); exact Kd.R_mono HO_11.out (fun _ hk => (by simp [Value.ownBlock]))⟩, ⟨by first | exact Kd.R_nil _ _ _ _ _ | exact Kd.N_nil _ _ _ _ _ | exact Kd.V_nil _ _ _ _ _ | exact Kd.Q_nil _ _ _ _ _ | exact Kd.S_nil _ _ _ _ _⟩, ⟨by repeat (first | (with_reducible first | exact HB.out | apply below_alloc | apply pw_below_drewN | apply below_drew1) | exact HB.out)⟩⟩
      case round =>
       clear H'
       try clear c1
       try clear c2
       try clear p2
       try clear c5
       try clear c7
       try clear c10
       try clear c11
       try clear c11b0
       try clear c11b1
       try clear c16
       try clear c18
       try clear c24
       try clear c26
       try clear p2
       obtain ⟨x13_2, x14_2, rfl, HA, HK2, HO_11, HO_13, HB⟩ := hrel
       cases gk with
       | zero => exact absurd HA.out (by simp [besomlaw09_ProtestModel.l0])
       | succ k2 =>
        have H := HA.out
        clear HA
        simp only [besomlaw09_ProtestModel.l0] at H
        by_cases c27 : x14_2 < (l0.length : Int)
        ·rw [if_pos c27] at H
         have c27b0 : decide (x14_2 < (l0.length : Int)) = true := decide_eq_true c27
         clear c27
         by_cases c28 : 0 ≤ x14_2
         ·rw [if_pos c28] at H
          have c28b0 : decide (0 ≤ x14_2) = true := decide_eq_true c28
          clear c28
          replace H := Option.bind_eq_some_iff.mp H
          obtain ⟨t262, A290, H⟩ := H
          replace H : (if t262 = true then (if x13_2.length < 8796093022208 then (besomlaw09_ProtestModel.l0 k2 l0 a1 l2 a3 a4 t249 (x13_2 ++ [(rd_T25 l0 x14_2).f5]) (wrap64 (x14_2 + 1))) else (none)) else (besomlaw09_ProtestModel.l0 k2 l0 a1 l2 a3 a4 t249 x13_2 (wrap64 (x14_2 + 1)))) = some r := H
          have A29 := Aside0.mk A290
          clear A290
          by_cases c30 : t262 = true
          ·subst c30
           have H1 : (if x13_2.length < 8796093022208 then (besomlaw09_ProtestModel.l0 k2 l0 a1 l2 a3 a4 t249 (x13_2 ++ [(rd_T25 l0 x14_2).f5]) (wrap64 (x14_2 + 1))) else (none)) = some r := by rw [if_pos rfl] at H; exact H
           clear H
           have H := H1
           clear H1
           by_cases c31 : x13_2.length < 8796093022208
           ·rw [if_pos c31] at H
            have LMc31 := Aside0.mk c31
            clear c31
            obtain ⟨y264, hy264⟩ : ∃ y_ : List ByteArray, y_ = (x13_2 ++ [(rd_T25 l0 x14_2).f5]) := ⟨_, rfl⟩
            replace H : (besomlaw09_ProtestModel.l0 k2 l0 a1 l2 a3 a4 t249 y264 (wrap64 (x14_2 + 1))) = some r := by first | (rw [hy264]; with_reducible exact H) | (have H2_ := (Option.bind_some _ _).symm.trans H; rw [hy264]; with_reducible exact H2_) | (have H2_ := (Option.bind_some _ _).symm.trans H; with_reducible exact H2_) | with_reducible exact H | (rw [hy264]; exact H) | exact H
            have Ny264 := Aside0.mk hy264
            clear hy264
            have H' := Aside0.mk H
            clear H
            have p261 : 0 ≤ (x14_2 : Int) := of_decide_eq_true (by first | (with_reducible assumption) | assumption)
            have q261 : x14_2 < (l0.length : Int) := of_decide_eq_true (by first | (with_reducible assumption) | assumption)
            obtain ⟨ad261, A261_3, c261_3, A261_4, c261_4, e261, hx261_0, hx261_1, hx261_2, hx261_3, hx261_4, hx261_5, hl261_3, hi261_3, hl261_4, hi261_4⟩ := at_T25 HR0.out x14_2 p261 q261
            cases e261
            replace hx261_0 := (HB.out.cell (World.block_lt_of_cell? w _ hx261_0)).trans hx261_0
            replace hx261_1 := (HB.out.cell (World.block_lt_of_cell? w _ hx261_1)).trans hx261_1
            replace hx261_2 := (HB.out.cell (World.block_lt_of_cell? w _ hx261_2)).trans hx261_2
            replace hx261_3 := (HB.out.cell (World.block_lt_of_cell? w _ hx261_3)).trans hx261_3
            replace hx261_4 := (HB.out.cell (World.block_lt_of_cell? w _ hx261_4)).trans hx261_4
            replace hx261_5 := (HB.out.cell (World.block_lt_of_cell? w _ hx261_5)).trans hx261_5
            have HR261_3 := Aside0.mk hi261_3
            have HC261_3 := Aside0.mk hl261_3
            clear hi261_3 hl261_3
            have HR261_4 := Aside0.mk hi261_4
            have HC261_4 := Aside0.mk hl261_4
            clear hi261_4 hl261_4
            replace p261 := eq_true p261
            replace q261 := eq_true q261
            obtain ⟨Ao32, co32, eo32⟩ := Kd.R_slice HO_11.out
            subst eo32
            go_wp2_with (first | ((with_reducible refine gate_callee (f := 28) rfl ?_); refine goesL_ (some 66) rfl rfl Tryz.func28 (by kernel_rfl) rfl #[.agg #[.string ((rd_T25 l0 x14_2).f0), .int .i64 ((rd_T25 l0 x14_2).f1), .int .i64 ((rd_T25 l0 x14_2).f2), .slice A261_3 ((rd_T25 l0 x14_2).f3).length c261_3, .slice A261_4 ((rd_T25 l0 x14_2).f4).length c261_4, .string ((rd_T25 l0 x14_2).f5)], .int .i64 a1, .slice Ao32 t249.length co32] rfl (by (try simp only [List.map_toArray, List.map_cons, List.map_nil]); first | done | rfl | (simp only [List.length_drop, List.length_take]; rfl)) ?_; (with_reducible refine (besomref09_Fires.calls k2 ((rd_T25 l0 x14_2).f0) ((rd_T25 l0 x14_2).f1) ((rd_T25 l0 x14_2).f2) _ _ ((rd_T25 l0 x14_2).f3) _ _ ((rd_T25 l0 x14_2).f4) ((rd_T25 l0 x14_2).f5) a1 _ _ t249 true _ ?side1 ?side2 ?side3 ?side4 ?side5 ?side6 A29.out).mono ?_); (case side1 => repeat (first | exact (Kd.C_below HR261_3.out HB.out) | (with_reducible refine Kd.C_alloc ?_ _) | (with_reducible refine Kd.C_drewN ?_ _) | (with_reducible refine Kd.C_drew ?_))); (case side2 => exact HC261_3.out); (case side3 => repeat (first | exact (Kd.C_below HR261_4.out HB.out) | (with_reducible refine Kd.C_alloc ?_ _) | (with_reducible refine Kd.C_drewN ?_ _) | (with_reducible refine Kd.C_drew ?_))); (case side4 => exact HC261_4.out); (case side5 => repeat (first | exact (Kd.R_reads' HO_11.out).2.2 | (with_reducible refine Kd.C_alloc ?_ _) | (with_reducible refine Kd.C_drewN ?_ _) | (with_reducible refine Kd.C_drew ?_))); (case side6 => exact (Kd.R_reads' HO_11.out).2.1); rintro e w33 ⟨rfl, hb⟩; refine ⟨_, rfl, ?_⟩; have n0_ := Aside0.mk (Kd.R_below (by (with_reducible repeat (first | apply Kd.R_alloc | apply Kd.R_drewN | apply Kd.R_drew)); exact HO_11.out) hb); have n1_ := Aside0.mk (Kd.R_below (by (with_reducible repeat (first | apply Kd.R_alloc | apply Kd.R_drewN | apply Kd.R_drew)); exact HO_13.out) hb); have n2_ := Aside0.mk (below_step (by repeat (first | (with_reducible first | exact HB.out | apply below_alloc | apply pw_below_drewN | apply below_drew1) | exact HB.out)) hb); clear HO_11; clear HO_13; clear HB; have HO_11 := n0_; have HO_13 := n1_; have HB := n2_; clear n0_ n1_ n2_; (try clear hb); (try clear hb2); (try clear hk); (try clear hi); have p263 : 0 ≤ (x14_2 : Int) := of_decide_eq_true (by first | (with_reducible assumption) | assumption); have q263 : x14_2 < (l0.length : Int) := of_decide_eq_true (by first | (with_reducible assumption) | assumption); obtain ⟨ad263, A263_3, c263_3, A263_4, c263_4, e263, hx263_0, hx263_1, hx263_2, hx263_3, hx263_4, hx263_5, hl263_3, hi263_3, hl263_4, hi263_4⟩ := at_T25 HR0.out x14_2 p263 q263; obtain rfl : ad261 = ad263 := (by injection e263); replace hx263_0 := (HB.out.cell (World.block_lt_of_cell? w _ hx263_0)).trans hx263_0; replace hx263_1 := (HB.out.cell (World.block_lt_of_cell? w _ hx263_1)).trans hx263_1; replace hx263_2 := (HB.out.cell (World.block_lt_of_cell? w _ hx263_2)).trans hx263_2; replace hx263_3 := (HB.out.cell (World.block_lt_of_cell? w _ hx263_3)).trans hx263_3; replace hx263_4 := (HB.out.cell (World.block_lt_of_cell? w _ hx263_4)).trans hx263_4; replace hx263_5 := (HB.out.cell (World.block_lt_of_cell? w _ hx263_5)).trans hx263_5; have HR263_3 := Aside0.mk hi263_3; have HC263_3 := Aside0.mk hl263_3; clear hi263_3 hl263_3; have HR263_4 := Aside0.mk hi263_4; have HC263_4 := Aside0.mk hl263_4; clear hi263_4 hl263_4; replace p263 := eq_true p263; replace q263 := eq_true q263) | ((with_reducible refine gate_builtin (b := .append) (xs := #[.tmp 67, .tmp 73]) rfl ?_); (try (refine gate_guard (by rfl) ?_; dsimp only)); at_builtin; refine Kd.R_append Kd.string (w0 := w) w.heap.size rfl (.tmp 67) (.tmp 73) 23 9 (.string ⟨#[]⟩) 16 rfl Tryz.underlying23 info9 rfl (by decide) (by omega) u13 x13_2 ((rd_T25 l0 x14_2).f5) [.string ((rd_T25 l0 x14_2).f5)] (fun k_ => some k_ ≠ (.slice Ao32 t249.length co32 : Value).ownBlock) (fun _ => False) rfl rfl ?aP (fun _ hk => hk.elim) ?aF ?aO ?aB ?aS ?aL ?_; (case aP => exact rfl); (case aB => exact (by repeat (first | (with_reducible first | exact HB.out | apply below_alloc | apply pw_below_drewN | apply below_drew1) | exact HB.out))); (case aF => exact (fun k_ hk => Kd.fresh' (Kd.R_lt (by (with_reducible repeat (first | apply Kd.R_alloc | apply Kd.R_drewN | apply Kd.R_drew)); exact HO_11.out)) k_ hk)); (case aO => exact (by (with_reducible repeat (first | apply Kd.R_alloc | apply Kd.R_drewN | apply Kd.R_drew)); exact HO_13.out)); (case aS => exact (below_size (by repeat (first | (with_reducible first | exact HB.out | apply below_alloc | apply pw_below_drewN | apply below_drew1) | exact HB.out)))); (case aL => have := LMc31.out; omega); intro v265 w34 ho hb hg hat; rw [← Ny264.out] at ho; have n0_ := Aside0.mk (Kd.R_after (ok := (fun _ => True)) (by (with_reducible repeat (first | apply Kd.R_alloc | apply Kd.R_drewN | apply Kd.R_drew)); exact Kd.R_mono HO_11.out (fun _ hk => ⟨trivial, hk⟩)) hg hat); have n1_ := Aside0.mk (hb); have n2_ := Aside0.mk (ho); clear HO_11; clear HB; clear HO_13; have HO_11 := n0_; have HB := n1_; have HO266 := n2_; clear n0_ n1_ n2_; clear ho hb hg hat))
            go_roundg k2
            case measure => have := HJ11.out; have := HK2.out; omega
            case rel => exact ⟨(y264), (wrap64 (x14_2 + 1)), (by first | rfl | (simp; done) | (simp [*]; done)), H', ⟨by have := HJ11.out; have := HK2.out; omega⟩, ⟨by (with_reducible repeat (first | apply Kd.R_alloc | apply Kd.R_drewN | apply Kd.R_drew)); exact Kd.R_mono HO_11.out (fun _ hk => hk.2)⟩, ⟨by (with_reducible repeat (first | apply Kd.R_alloc | apply Kd.R_drewN | apply Kd.R_drew)); exact HO266.out⟩, ⟨by repeat (first | (with_reducible first | exact HB.out | apply below_alloc | apply pw_below_drewN | apply below_drew1) | exact HB.out)⟩⟩
           ·rw [if_neg c31] at H
            exact absurd H (by simp)
          ·replace c30 := Bool.eq_false_iff.mpr c30
           subst c30
           have H1 : (besomlaw09_ProtestModel.l0 k2 l0 a1 l2 a3 a4 t249 x13_2 (wrap64 (x14_2 + 1))) = some r := by rw [if_neg (show ¬ (false = true) by decide)] at H; exact H
           clear H
           have H := H1
           clear H1
           have H' := Aside0.mk H
           clear H
           have p261 : 0 ≤ (x14_2 : Int) := of_decide_eq_true (by first | (with_reducible assumption) | assumption)
           have q261 : x14_2 < (l0.length : Int) := of_decide_eq_true (by first | (with_reducible assumption) | assumption)
           obtain ⟨ad261, A261_3, c261_3, A261_4, c261_4, e261, hx261_0, hx261_1, hx261_2, hx261_3, hx261_4, hx261_5, hl261_3, hi261_3, hl261_4, hi261_4⟩ := at_T25 HR0.out x14_2 p261 q261
           cases e261
           replace hx261_0 := (HB.out.cell (World.block_lt_of_cell? w _ hx261_0)).trans hx261_0
           replace hx261_1 := (HB.out.cell (World.block_lt_of_cell? w _ hx261_1)).trans hx261_1
           replace hx261_2 := (HB.out.cell (World.block_lt_of_cell? w _ hx261_2)).trans hx261_2
           replace hx261_3 := (HB.out.cell (World.block_lt_of_cell? w _ hx261_3)).trans hx261_3
           replace hx261_4 := (HB.out.cell (World.block_lt_of_cell? w _ hx261_4)).trans hx261_4
           replace hx261_5 := (HB.out.cell (World.block_lt_of_cell? w _ hx261_5)).trans hx261_5
           have HR261_3 := Aside0.mk hi261_3
           have HC261_3 := Aside0.mk hl261_3
           clear hi261_3 hl261_3
           have HR261_4 := Aside0.mk hi261_4
           have HC261_4 := Aside0.mk hl261_4
           clear hi261_4 hl261_4
           replace p261 := eq_true p261
           replace q261 := eq_true q261
           obtain ⟨Ao35, co35, eo35⟩ := Kd.R_slice HO_11.out
           subst eo35
           go_wp2_with (first | ((with_reducible refine gate_callee (f := 28) rfl ?_); refine goesL_ (some 66) rfl rfl Tryz.func28 (by kernel_rfl) rfl #[.agg #[.string ((rd_T25 l0 x14_2).f0), .int .i64 ((rd_T25 l0 x14_2).f1), .int .i64 ((rd_T25 l0 x14_2).f2), .slice A261_3 ((rd_T25 l0 x14_2).f3).length c261_3, .slice A261_4 ((rd_T25 l0 x14_2).f4).length c261_4, .string ((rd_T25 l0 x14_2).f5)], .int .i64 a1, .slice Ao35 t249.length co35] rfl (by (try simp only [List.map_toArray, List.map_cons, List.map_nil]); first | done | rfl | (simp only [List.length_drop, List.length_take]; rfl)) ?_; (with_reducible refine (besomref09_Fires.calls k2 ((rd_T25 l0 x14_2).f0) ((rd_T25 l0 x14_2).f1) ((rd_T25 l0 x14_2).f2) _ _ ((rd_T25 l0 x14_2).f3) _ _ ((rd_T25 l0 x14_2).f4) ((rd_T25 l0 x14_2).f5) a1 _ _ t249 false _ ?side1 ?side2 ?side3 ?side4 ?side5 ?side6 A29.out).mono ?_); (case side1 => repeat (first | exact (Kd.C_below HR261_3.out HB.out) | (with_reducible refine Kd.C_alloc ?_ _) | (with_reducible refine Kd.C_drewN ?_ _) | (with_reducible refine Kd.C_drew ?_))); (case side2 => exact HC261_3.out); (case side3 => repeat (first | exact (Kd.C_below HR261_4.out HB.out) | (with_reducible refine Kd.C_alloc ?_ _) | (with_reducible refine Kd.C_drewN ?_ _) | (with_reducible refine Kd.C_drew ?_))); (case side4 => exact HC261_4.out); (case side5 => repeat (first | exact (Kd.R_reads' HO_11.out).2.2 | (with_reducible refine Kd.C_alloc ?_ _) | (with_reducible refine Kd.C_drewN ?_ _) | (with_reducible refine Kd.C_drew ?_))); (case side6 => exact (Kd.R_reads' HO_11.out).2.1); rintro e w36 ⟨rfl, hb⟩; refine ⟨_, rfl, ?_⟩; have n0_ := Aside0.mk (Kd.R_below (by (with_reducible repeat (first | apply Kd.R_alloc | apply Kd.R_drewN | apply Kd.R_drew)); exact HO_11.out) hb); have n1_ := Aside0.mk (Kd.R_below (by (with_reducible repeat (first | apply Kd.R_alloc | apply Kd.R_drewN | apply Kd.R_drew)); exact HO_13.out) hb); have n2_ := Aside0.mk (below_step (by repeat (first | (with_reducible first | exact HB.out | apply below_alloc | apply pw_below_drewN | apply below_drew1) | exact HB.out)) hb); clear HO_11; clear HO_13; clear HB; have HO_11 := n0_; have HO_13 := n1_; have HB := n2_; clear n0_ n1_ n2_; (try clear hb); (try clear hb2); (try clear hk); (try clear hi)))
           go_roundg k2
           case measure => have := HJ11.out; have := HK2.out; omega
           case rel => exact ⟨(x13_2), (wrap64 (x14_2 + 1)), (by first | rfl | (simp; done) | (simp [*]; done)), H', ⟨by have := HJ11.out; have := HK2.out; omega⟩, ⟨by (with_reducible repeat (first | apply Kd.R_alloc | apply Kd.R_drewN | apply Kd.R_drew)); exact HO_11.out⟩, ⟨by (with_reducible repeat (first | apply Kd.R_alloc | apply Kd.R_drewN | apply Kd.R_drew)); exact HO_13.out⟩, ⟨by repeat (first | (with_reducible first | exact HB.out | apply below_alloc | apply pw_below_drewN | apply below_drew1) | exact HB.out)⟩⟩
         ·rw [if_neg c28] at H
          exact absurd H (by simp)
        ·rw [if_neg c27] at H
         have c27b0 : decide (x14_2 < (l0.length : Int)) = false := decide_eq_false c27
         clear c27
         have HC37 := Aside0.mk H
         clear H
         go_upto_region 14 with (fail)
         go_cut [90] (fun v90 wc => ∃ (kq : Nat) (x90_36 : Bool), v90 = .bool x90_36 ∧ Aside0 (besomlaw09_ProtestModel.j2 kq l0 a1 l2 a3 a4 t249 x90_36 = some r) ∧ Aside0 (kq ≤ k2) ∧ Aside0 (Kd.R Kd.string 9 wc w.heap.size (fun _ => True) v251 t249) ∧ Aside0 (Below w.heap.size w wc))
         case first =>
          have H := HC37.out
          clear HC37
          replace H := Option.bind_eq_some_iff.mp H
          obtain ⟨t267, A380, H⟩ := H
          replace H : (if (t267.length : Int) > 0 then (besomlaw09_ProtestModel.j2 k2 l0 a1 l2 a3 a4 t249 true) else ((some (([] : List ByteArray) : List ByteArray)).bind fun y270 => (if y270.length + l2.length < 8796093022208 then ((some (y270 ++ l2 : List ByteArray)).bind fun y273 => (if y273.length + x13_2.length < 8796093022208 then ((besomref09_Less.f k2 t249 (y273 ++ x13_2)).bind fun t279 => (besomlaw09_ProtestModel.j2 k2 l0 a1 l2 a3 a4 t249 (decide ((t279.length : Int) > 0)))) else (none))) else (none)))) = some r := H
          have A38 := Aside0.mk A380
          clear A380
          by_cases c39 : (t267.length : Int) > 0
          ·rw [if_pos c39] at H
           have c39b0 : decide (0 < (t267.length : Int)) = true := decide_eq_true c39
           have c39b1 : decide (0 < t267.length) = true := decide_eq_true (by omega)
           clear c39
           (first | rw [c39b0] | (simp only [i64_w, i32_w]; rw [c39b0]) | skip)
           have H' := Aside0.mk H
           clear H
           obtain ⟨Ao40, co40, eo40⟩ := Kd.R_slice HO_13.out
           subst eo40
           obtain ⟨Ao41, co41, eo41⟩ := Kd.R_slice HO_11.out
           subst eo41
           go_wp2_with (first | ((with_reducible refine gate_callee (f := 27) rfl ?_); refine goesL_ (some 77) rfl rfl Tryz.func27 (by kernel_rfl) rfl #[.slice Ao40 x13_2.length co40, .slice Ao41 t249.length co41] rfl (by (try simp only [List.map_toArray, List.map_cons, List.map_nil]); first | done | rfl | (simp only [List.length_drop, List.length_take]; rfl)) ?_; (with_reducible refine (besomref09_Less.calls k2 _ _ x13_2 _ _ t249 t267 _ ?side1 ?side2 ?side3 ?side4 A38.out).mono ?_); (case side1 => repeat (first | exact (Kd.R_reads' HO_13.out).2.2 | (with_reducible refine Kd.C_alloc ?_ _) | (with_reducible refine Kd.C_drewN ?_ _) | (with_reducible refine Kd.C_drew ?_))); (case side2 => exact (Kd.R_reads' HO_13.out).2.1); (case side3 => repeat (first | exact (Kd.R_reads' HO_11.out).2.2 | (with_reducible refine Kd.C_alloc ?_ _) | (with_reducible refine Kd.C_drewN ?_ _) | (with_reducible refine Kd.C_drew ?_))); (case side4 => exact (Kd.R_reads' HO_11.out).2.1); rintro e w42 ⟨v268, rfl, ho0, hb⟩; refine ⟨_, rfl, ?_⟩; have n0_ := Aside0.mk (Kd.R_elder' (by (with_reducible repeat (first | apply Kd.R_alloc | apply Kd.R_drewN | apply Kd.R_drew)); exact HO_11.out) (Kd.R_base ho0) hb); have n1_ := Aside0.mk (Kd.R_elder' (by (with_reducible repeat (first | apply Kd.R_alloc | apply Kd.R_drewN | apply Kd.R_drew)); exact HO_13.out) (Kd.R_base ho0) hb); have n2_ := Aside0.mk (Kd.R_lower (Kd.R_new' (Kd.R_new' ho0 (Kd.R_lt (by (with_reducible repeat (first | apply Kd.R_alloc | apply Kd.R_drewN | apply Kd.R_drew)); exact HO_11.out))) (Kd.R_lt (by (with_reducible repeat (first | apply Kd.R_alloc | apply Kd.R_drewN | apply Kd.R_drew)); exact HO_13.out))) (below_size (by repeat (first | (with_reducible first | exact HB.out | apply below_alloc | apply pw_below_drewN | apply below_drew1) | exact HB.out)))); have n3_ := Aside0.mk (below_step (by repeat (first | (with_reducible first | exact HB.out | apply below_alloc | apply pw_below_drewN | apply below_drew1) | exact HB.out)) hb); clear HO_11; clear HO_13; clear HB; have HO_11 := n0_; have HO_13 := n1_; have HO269 := n2_; have HB := n3_; clear n0_ n1_ n2_ n3_; (try clear hb); (try clear hb2); (try clear hk); (try clear hi); (try clear ho0); obtain ⟨Ao43, co43, eo43⟩ := Kd.R_slice HO269.out; subst eo43))
           go_meet
           case rel => exact ⟨_, (true), (by first | rfl | (simp; done) | (simp [*]; done)), H', ⟨by have := HJ11.out; have := HK2.out; first | omega | exact Nat.le_refl _⟩, ⟨by (with_reducible repeat (first | apply Kd.R_alloc | apply Kd.R_drewN | apply Kd.R_drew)); exact Kd.R_mono HO_11.out (fun _ hk => trivial)⟩, ⟨by repeat (first | (with_reducible first | exact HB.out | apply below_alloc | apply pw_below_drewN | apply below_drew1) | exact HB.out)⟩⟩
          ·rw [if_neg c39] at H
           have c39b0 : decide (0 < (t267.length : Int)) = false := decide_eq_false c39
           have c39b1 : decide (0 < t267.length) = false := decide_eq_false (by omega)
           clear c39
           (first | rw [c39b0] | (simp only [i64_w, i32_w]; rw [c39b0]) | skip)
           obtain ⟨y270, hy270⟩ : ∃ y_ : List ByteArray, y_ = (([] : List ByteArray)) := ⟨_, rfl⟩
           replace H : (if y270.length + l2.length < 8796093022208 then ((some (y270 ++ l2 : List ByteArray)).bind fun y273 => (if y273.length + x13_2.length < 8796093022208 then ((besomref09_Less.f k2 t249 (y273 ++ x13_2)).bind fun t279 => (besomlaw09_ProtestModel.j2 k2 l0 a1 l2 a3 a4 t249 (decide ((t279.length : Int) > 0)))) else (none))) else (none)) = some r := by first | (rw [hy270]; with_reducible exact H) | (have H2_ := (Option.bind_some _ _).symm.trans H; rw [hy270]; with_reducible exact H2_) | (have H2_ := (Option.bind_some _ _).symm.trans H; with_reducible exact H2_) | with_reducible exact H | (rw [hy270]; exact H) | exact H
           have Ny270 := Aside0.mk hy270
           clear hy270
           by_cases c44 : y270.length + l2.length < 8796093022208
           ·rw [if_pos c44] at H
            have LMc44 := Aside0.mk c44
            clear c44
            obtain ⟨y273, hy273⟩ : ∃ y_ : List ByteArray, y_ = (y270 ++ l2) := ⟨_, rfl⟩
            replace H : (if y273.length + x13_2.length < 8796093022208 then ((besomref09_Less.f k2 t249 (y273 ++ x13_2)).bind fun t279 => (besomlaw09_ProtestModel.j2 k2 l0 a1 l2 a3 a4 t249 (decide ((t279.length : Int) > 0)))) else (none)) = some r := by first | (rw [hy273]; with_reducible exact H) | (have H2_ := (Option.bind_some _ _).symm.trans H; rw [hy273]; with_reducible exact H2_) | (have H2_ := (Option.bind_some _ _).symm.trans H; with_reducible exact H2_) | with_reducible exact H | (rw [hy273]; exact H) | exact H
            have Ny273 := Aside0.mk hy273
            clear hy273
            by_cases c45 : y273.length + x13_2.length < 8796093022208
            ·rw [if_pos c45] at H
             have LMc45 := Aside0.mk c45
             clear c45
             obtain ⟨y276, hy276⟩ : ∃ y_ : List ByteArray, y_ = (y273 ++ x13_2) := ⟨_, rfl⟩
             replace H : ((besomref09_Less.f k2 t249 y276).bind fun t279 => (besomlaw09_ProtestModel.j2 k2 l0 a1 l2 a3 a4 t249 (decide ((t279.length : Int) > 0)))) = some r := by first | (rw [hy276]; with_reducible exact H) | (have H2_ := (Option.bind_some _ _).symm.trans H; rw [hy276]; with_reducible exact H2_) | (have H2_ := (Option.bind_some _ _).symm.trans H; with_reducible exact H2_) | with_reducible exact H | (rw [hy276]; exact H) | exact H
             have Ny276 := Aside0.mk hy276
             clear hy276
             replace H := Option.bind_eq_some_iff.mp H
             obtain ⟨t279, A460, H⟩ := H
             replace H : (besomlaw09_ProtestModel.j2 k2 l0 a1 l2 a3 a4 t249 (decide ((t279.length : Int) > 0))) = some r := H
             have A46 := Aside0.mk A460
             clear A460
             have H' := Aside0.mk H
             clear H
             obtain ⟨Ao47, co47, eo47⟩ := Kd.R_slice HO_13.out
             subst eo47
             obtain ⟨Ao48, co48, eo48⟩ := Kd.R_slice HO_11.out
             subst eo48
             go_wp2_with (first | ((with_reducible refine gate_callee (f := 27) rfl ?_); refine goesL_ (some 77) rfl rfl Tryz.func27 (by kernel_rfl) rfl #[.slice Ao47 x13_2.length co47, .slice Ao48 t249.length co48] rfl (by (try simp only [List.map_toArray, List.map_cons, List.map_nil]); first | done | rfl | (simp only [List.length_drop, List.length_take]; rfl)) ?_; (with_reducible refine (besomref09_Less.calls k2 _ _ x13_2 _ _ t249 t267 _ ?side1 ?side2 ?side3 ?side4 A38.out).mono ?_); (case side1 => repeat (first | exact (Kd.R_reads' HO_13.out).2.2 | (with_reducible refine Kd.C_alloc ?_ _) | (with_reducible refine Kd.C_drewN ?_ _) | (with_reducible refine Kd.C_drew ?_))); (case side2 => exact (Kd.R_reads' HO_13.out).2.1); (case side3 => repeat (first | exact (Kd.R_reads' HO_11.out).2.2 | (with_reducible refine Kd.C_alloc ?_ _) | (with_reducible refine Kd.C_drewN ?_ _) | (with_reducible refine Kd.C_drew ?_))); (case side4 => exact (Kd.R_reads' HO_11.out).2.1); rintro e w49 ⟨v268, rfl, ho0, hb⟩; refine ⟨_, rfl, ?_⟩; have n0_ := Aside0.mk (Kd.R_elder' (by (with_reducible repeat (first | apply Kd.R_alloc | apply Kd.R_drewN | apply Kd.R_drew)); exact HO_11.out) (Kd.R_base ho0) hb); have n1_ := Aside0.mk (Kd.R_elder' (by (with_reducible repeat (first | apply Kd.R_alloc | apply Kd.R_drewN | apply Kd.R_drew)); exact HO_13.out) (Kd.R_base ho0) hb); have n2_ := Aside0.mk (Kd.R_lower (Kd.R_new' (Kd.R_new' ho0 (Kd.R_lt (by (with_reducible repeat (first | apply Kd.R_alloc | apply Kd.R_drewN | apply Kd.R_drew)); exact HO_11.out))) (Kd.R_lt (by (with_reducible repeat (first | apply Kd.R_alloc | apply Kd.R_drewN | apply Kd.R_drew)); exact HO_13.out))) (below_size (by repeat (first | (with_reducible first | exact HB.out | apply below_alloc | apply pw_below_drewN | apply below_drew1) | exact HB.out)))); have n3_ := Aside0.mk (below_step (by repeat (first | (with_reducible first | exact HB.out | apply below_alloc | apply pw_below_drewN | apply below_drew1) | exact HB.out)) hb); clear HO_11; clear HO_13; clear HB; have HO_11 := n0_; have HO_13 := n1_; have HO269 := n2_; have HB := n3_; clear n0_ n1_ n2_ n3_; (try clear hb); (try clear hb2); (try clear hk); (try clear hi); (try clear ho0); obtain ⟨Ao50, co50, eo50⟩ := Kd.R_slice HO269.out; subst eo50) | ((with_reducible refine gate_dst (N := 82) rfl ?_); (try (refine gate_guard (by rfl) ?_; dsimp only)); refine Kd.R_lit Kd.string _ 9 ?hg (N := 82) ?hd (xs := ([] : List ByteArray)) (inner := []) (ok := fun _ => True) (okp := fun _ => True) ?hr ?hp (fun _ hk => hk) trivial (Below.refl _ _) (Nat.le_refl _) (by simp) ?_; (case hd => rfl); (case hg => rfl); (case hr => first | (go_simp; done) | (go_simp; rfl)); (case hp => exact (Reps.none _ _)); intro v271 w51 ho52 hb hg_ hnew_; clear hg_ hnew_; (first | rw [← Ny270.out] at ho52 | (simp only [Int.reduceToNat] at ho52; rw [← Ny270.out] at ho52)); have n0_ := Aside0.mk (Kd.R_elder' (by (with_reducible repeat (first | apply Kd.R_alloc | apply Kd.R_drewN | apply Kd.R_drew)); exact HO_11.out) (Kd.R_base ho52) hb); have n1_ := Aside0.mk (Kd.R_elder' (by (with_reducible repeat (first | apply Kd.R_alloc | apply Kd.R_drewN | apply Kd.R_drew)); exact HO_13.out) (Kd.R_base ho52) hb); have n2_ := Aside0.mk (Kd.R_elder' (by (with_reducible repeat (first | apply Kd.R_alloc | apply Kd.R_drewN | apply Kd.R_drew)); exact HO269.out) (Kd.R_base ho52) hb); have n3_ := Aside0.mk (Kd.R_lower (Kd.R_new' (Kd.R_new' (Kd.R_new' ho52 (Kd.R_lt (by (with_reducible repeat (first | apply Kd.R_alloc | apply Kd.R_drewN | apply Kd.R_drew)); exact HO_11.out))) (Kd.R_lt (by (with_reducible repeat (first | apply Kd.R_alloc | apply Kd.R_drewN | apply Kd.R_drew)); exact HO_13.out))) (Kd.R_lt (by (with_reducible repeat (first | apply Kd.R_alloc | apply Kd.R_drewN | apply Kd.R_drew)); exact HO269.out))) (below_size (by repeat (first | (with_reducible first | exact HB.out | apply below_alloc | apply pw_below_drewN | apply below_drew1) | exact HB.out)))); have n4_ := Aside0.mk (below_step (by repeat (first | (with_reducible first | exact HB.out | apply below_alloc | apply pw_below_drewN | apply below_drew1) | exact HB.out)) hb); clear HO_11; clear HO_13; clear HO269; clear HB; have HO_11 := n0_; have HO_13 := n1_; have HO269 := n2_; have HO272 := n3_; have HB := n4_; clear n0_ n1_ n2_ n3_ n4_; clear hb ho52) | ((with_reducible refine gate_builtin (b := .append) (xs := #[.tmp 82, .tmp 83]) rfl ?_); (try (refine gate_guard (by rfl) ?_; dsimp only)); at_builtin; refine Kd.R_append_rows Kd.string (w0 := w) w.heap.size rfl (.tmp 82) (.tmp 83) 23 9 (.string ⟨#[]⟩) 16 rfl Tryz.underlying23 info9 rfl (by decide) (by omega) v271 y270 l2 _ _ _ (fun k_ => some k_ ≠ (.slice Ao48 t249.length co48 : Value).ownBlock ∧ some k_ ≠ (.slice Ao47 x13_2.length co47 : Value).ownBlock ∧ some k_ ≠ (.slice Ao50 t267.length co50 : Value).ownBlock) (fun _ => False) rfl rfl ?aO ?aR (fun _ _ h => h) (fun _ h => h.elim) ?aF ?aB ?aS ?aL ?_; (case aR => repeat (first | exact (Kd.C_below HR2.out HB.out) | (with_reducible refine Kd.C_alloc ?_ _) | (with_reducible refine Kd.C_drewN ?_ _) | (with_reducible refine Kd.C_drew ?_))); (case aB => exact (by repeat (first | (with_reducible first | exact HB.out | apply below_alloc | apply pw_below_drewN | apply below_drew1) | exact HB.out))); (case aF => exact (fun k_ hk => ⟨Kd.fresh' (Kd.R_lt (by (with_reducible repeat (first | apply Kd.R_alloc | apply Kd.R_drewN | apply Kd.R_drew)); exact HO_11.out)) k_ hk, Kd.fresh' (Kd.R_lt (by (with_reducible repeat (first | apply Kd.R_alloc | apply Kd.R_drewN | apply Kd.R_drew)); exact HO_13.out)) k_ hk, Kd.fresh' (Kd.R_lt (by (with_reducible repeat (first | apply Kd.R_alloc | apply Kd.R_drewN | apply Kd.R_drew)); exact HO269.out)) k_ hk⟩)); (case aO => exact (by (with_reducible repeat (first | apply Kd.R_alloc | apply Kd.R_drewN | apply Kd.R_drew)); exact Kd.R_mono HO272.out (fun _ hk => ⟨hk.1.1.2, ⟨hk.1.2, hk.2⟩⟩))); (case aS => exact (below_size (by repeat (first | (with_reducible first | exact HB.out | apply below_alloc | apply pw_below_drewN | apply below_drew1) | exact HB.out)))); (case aL => have := LMc44.out; omega); intro v274 w53 ho hb hg hat; rw [← Ny273.out] at ho; have n0_ := Aside0.mk (Kd.R_after (ok := (fun k_ => some k_ ≠ (.slice Ao47 x13_2.length co47 : Value).ownBlock ∧ some k_ ≠ (.slice Ao50 t267.length co50 : Value).ownBlock)) (by (with_reducible repeat (first | apply Kd.R_alloc | apply Kd.R_drewN | apply Kd.R_drew)); exact HO_11.out) hg hat); have n1_ := Aside0.mk (Kd.R_after (ok := (fun k_ => some k_ ≠ (.slice Ao48 t249.length co48 : Value).ownBlock ∧ some k_ ≠ (.slice Ao50 t267.length co50 : Value).ownBlock)) (by (with_reducible repeat (first | apply Kd.R_alloc | apply Kd.R_drewN | apply Kd.R_drew)); exact HO_13.out) hg hat); have n2_ := Aside0.mk (Kd.R_after (ok := (fun k_ => some k_ ≠ (.slice Ao48 t249.length co48 : Value).ownBlock ∧ some k_ ≠ (.slice Ao47 x13_2.length co47 : Value).ownBlock)) (by (with_reducible repeat (first | apply Kd.R_alloc | apply Kd.R_drewN | apply Kd.R_drew)); exact Kd.R_mono HO269.out (fun _ hk => ⟨⟨hk.1.1.2, hk.1.2⟩, hk.2⟩)) hg hat); have n3_ := Aside0.mk (hb); have n4_ := Aside0.mk (ho); clear HO_11; clear HO_13; clear HO269; clear HB; clear HO272; have HO_11 := n0_; have HO_13 := n1_; have HO269 := n2_; have HB := n3_; have HO275 := n4_; clear n0_ n1_ n2_ n3_ n4_; clear ho hb hg hat) | ((with_reducible refine gate_builtin (b := .append) (xs := #[.tmp 84, .tmp 85]) rfl ?_); (try (refine gate_guard (by rfl) ?_; dsimp only)); at_builtin; refine Kd.R_append_rows Kd.string (w0 := w) w.heap.size rfl (.tmp 84) (.tmp 85) 23 9 (.string ⟨#[]⟩) 16 rfl Tryz.underlying23 info9 rfl (by decide) (by omega) v274 y273 x13_2 _ _ _ (fun k_ => some k_ ≠ (.slice Ao48 t249.length co48 : Value).ownBlock ∧ some k_ ≠ (.slice Ao47 x13_2.length co47 : Value).ownBlock ∧ some k_ ≠ (.slice Ao50 t267.length co50 : Value).ownBlock) (fun _ => False) rfl rfl ?aO ?aR (fun _ _ h => h) (fun _ h => h.elim) ?aF ?aB ?aS ?aL ?_; (case aR => repeat (first | exact (Kd.R_reads' HO_13.out).2.2 | (with_reducible refine Kd.C_alloc ?_ _) | (with_reducible refine Kd.C_drewN ?_ _) | (with_reducible refine Kd.C_drew ?_))); (case aB => exact (by repeat (first | (with_reducible first | exact HB.out | apply below_alloc | apply pw_below_drewN | apply below_drew1) | exact HB.out))); (case aF => exact (fun k_ hk => ⟨Kd.fresh' (Kd.R_lt (by (with_reducible repeat (first | apply Kd.R_alloc | apply Kd.R_drewN | apply Kd.R_drew)); exact HO_11.out)) k_ hk, Kd.fresh' (Kd.R_lt (by (with_reducible repeat (first | apply Kd.R_alloc | apply Kd.R_drewN | apply Kd.R_drew)); exact HO_13.out)) k_ hk, Kd.fresh' (Kd.R_lt (by (with_reducible repeat (first | apply Kd.R_alloc | apply Kd.R_drewN | apply Kd.R_drew)); exact HO269.out)) k_ hk⟩)); (case aO => exact (by (with_reducible repeat (first | apply Kd.R_alloc | apply Kd.R_drewN | apply Kd.R_drew)); exact HO275.out)); (case aS => exact (below_size (by repeat (first | (with_reducible first | exact HB.out | apply below_alloc | apply pw_below_drewN | apply below_drew1) | exact HB.out)))); (case aL => have := LMc45.out; omega); intro v277 w54 ho hb hg hat; rw [← Ny276.out] at ho; have n0_ := Aside0.mk (Kd.R_after (ok := (fun k_ => some k_ ≠ (.slice Ao47 x13_2.length co47 : Value).ownBlock ∧ some k_ ≠ (.slice Ao50 t267.length co50 : Value).ownBlock)) (by (with_reducible repeat (first | apply Kd.R_alloc | apply Kd.R_drewN | apply Kd.R_drew)); exact HO_11.out) hg hat); have n1_ := Aside0.mk (Kd.R_after (ok := (fun k_ => some k_ ≠ (.slice Ao48 t249.length co48 : Value).ownBlock ∧ some k_ ≠ (.slice Ao50 t267.length co50 : Value).ownBlock)) (by (with_reducible repeat (first | apply Kd.R_alloc | apply Kd.R_drewN | apply Kd.R_drew)); exact HO_13.out) hg hat); have n2_ := Aside0.mk (Kd.R_after (ok := (fun k_ => some k_ ≠ (.slice Ao48 t249.length co48 : Value).ownBlock ∧ some k_ ≠ (.slice Ao47 x13_2.length co47 : Value).ownBlock)) (by (with_reducible repeat (first | apply Kd.R_alloc | apply Kd.R_drewN | apply Kd.R_drew)); exact HO269.out) hg hat); have n3_ := Aside0.mk (hb); have n4_ := Aside0.mk (ho); clear HO_11; clear HO_13; clear HO269; clear HB; clear HO275; have HO_11 := n0_; have HO_13 := n1_; have HO269 := n2_; have HB := n3_; have HO278 := n4_; clear n0_ n1_ n2_ n3_ n4_; clear ho hb hg hat; obtain ⟨Ao55, co55, eo55⟩ := Kd.R_slice HO278.out; subst eo55) | (go_at_call 27; (with_reducible refine (besomref09_Less.calls k2 _ _ t249 _ _ y276 t279 _ ?side1 ?side2 ?side3 ?side4 A46.out).mono ?_); (case side1 => repeat (first | exact (Kd.R_reads' HO_11.out).2.2 | (with_reducible refine Kd.C_alloc ?_ _) | (with_reducible refine Kd.C_drewN ?_ _) | (with_reducible refine Kd.C_drew ?_))); (case side2 => exact (Kd.R_reads' HO_11.out).2.1); (case side3 => repeat (first | exact (Kd.R_reads' HO278.out).2.2 | (with_reducible refine Kd.C_alloc ?_ _) | (with_reducible refine Kd.C_drewN ?_ _) | (with_reducible refine Kd.C_drew ?_))); (case side4 => exact (Kd.R_reads' HO278.out).2.1); rintro e w56 ⟨v280, rfl, ho0, hb⟩; have n0_ := Aside0.mk (Kd.R_elder' (by (with_reducible repeat (first | apply Kd.R_alloc | apply Kd.R_drewN | apply Kd.R_drew)); exact HO_11.out) (Kd.R_base ho0) hb); have n1_ := Aside0.mk (Kd.R_elder' (by (with_reducible repeat (first | apply Kd.R_alloc | apply Kd.R_drewN | apply Kd.R_drew)); exact HO_13.out) (Kd.R_base ho0) hb); have n2_ := Aside0.mk (Kd.R_elder' (by (with_reducible repeat (first | apply Kd.R_alloc | apply Kd.R_drewN | apply Kd.R_drew)); exact HO269.out) (Kd.R_base ho0) hb); have n3_ := Aside0.mk (Kd.R_elder' (by (with_reducible repeat (first | apply Kd.R_alloc | apply Kd.R_drewN | apply Kd.R_drew)); exact HO278.out) (Kd.R_base ho0) hb); have n4_ := Aside0.mk (Kd.R_lower (Kd.R_new' (Kd.R_new' (Kd.R_new' (Kd.R_new' ho0 (Kd.R_lt (by (with_reducible repeat (first | apply Kd.R_alloc | apply Kd.R_drewN | apply Kd.R_drew)); exact HO_11.out))) (Kd.R_lt (by (with_reducible repeat (first | apply Kd.R_alloc | apply Kd.R_drewN | apply Kd.R_drew)); exact HO_13.out))) (Kd.R_lt (by (with_reducible repeat (first | apply Kd.R_alloc | apply Kd.R_drewN | apply Kd.R_drew)); exact HO269.out))) (Kd.R_lt (by (with_reducible repeat (first | apply Kd.R_alloc | apply Kd.R_drewN | apply Kd.R_drew)); exact HO278.out))) (below_size (by repeat (first | (with_reducible first | exact HB.out | apply below_alloc | apply pw_below_drewN | apply below_drew1) | exact HB.out)))); have n5_ := Aside0.mk (below_step (by repeat (first | (with_reducible first | exact HB.out | apply below_alloc | apply pw_below_drewN | apply below_drew1) | exact HB.out)) hb); clear HO_11; clear HO_13; clear HO269; clear HO278; clear HB; have HO_11 := n0_; have HO_13 := n1_; have HO269 := n2_; have HO278 := n3_; have HO281 := n4_; have HB := n5_; clear n0_ n1_ n2_ n3_ n4_ n5_; (try clear hb); (try clear hb2); (try clear hk); (try clear hi); (try clear ho0); obtain ⟨Ao57, co57, eo57⟩ := Kd.R_slice HO281.out; subst eo57))
             go_meet
             case rel => exact ⟨_, (decide ((t279.length : Int) > 0)), (by first | rfl | (simp; done) | (simp [*]; done)), H', ⟨by have := HJ11.out; have := HK2.out; first | omega | exact Nat.le_refl _⟩, ⟨by (with_reducible repeat (first | apply Kd.R_alloc | apply Kd.R_drewN | apply Kd.R_drew)); exact Kd.R_mono HO_11.out (fun _ hk => trivial)⟩, ⟨by repeat (first | (with_reducible first | exact HB.out | apply below_alloc | apply pw_below_drewN | apply below_drew1) | exact HB.out)⟩⟩
            ·rw [if_neg c45] at H
             exact absurd H (by simp)
           ·rw [if_neg c44] at H
            exact absurd H (by simp)
         case rest =>
          clear HC37
          try clear c1
          try clear c2
          try clear p2
          try clear q2
          try clear hx2
          try clear c3
          try clear c4
          try clear c5
          try clear p6
          try clear c7
          try clear c10
          try clear c11
          try clear c11b0
          try clear c11b1
          try clear c16
          try clear c18
          try clear c24
          try clear c26
          try clear p26
          try clear q26
          try clear hx26
          try clear c27
          try clear c27b0
          try clear c28
          try clear c28b0
          try clear c30
          try clear c31
          try clear c39
          try clear c39b0
          try clear c39b1
          try clear c44
          try clear c45
          try clear hx261_0
          try clear hx261_1
          try clear hx261_2
          try clear hx261_3
          try clear hx261_4
          try clear hx261_5
          try clear hx263_0
          try clear hx263_1
          try clear hx263_2
          try clear hx263_3
          try clear hx263_4
          try clear hx263_5
          try clear p2
          try clear p261
          try clear p263
          try clear q261
          try clear q263
          obtain ⟨kq, x90_36, rfl, HA, HJ36, HO_11, HB⟩ := hcut
          cases kq with
          | zero => exact absurd HA.out (by simp [besomlaw09_ProtestModel.j2])
          | succ kj36 =>
           have H := HA.out
           clear HA
           simp only [besomlaw09_ProtestModel.j2] at H
           by_cases c58 : x90_36 = true
           ·subst c58
            have H1 : (some false) = some r := by rw [if_pos rfl] at H; exact H
            clear H
            have H := H1
            clear H1
            obtain rfl := Option.some.inj H
            go_wp2
            go_ret
            exact ⟨by first | rfl | (simp [errW_none, errW_some] <;> rfl) | (simp [*, errW_none, errW_some] <;> rfl), by repeat (first | (with_reducible first | exact HB.out | apply below_alloc | apply pw_below_drewN | apply below_drew1) | exact HB.out)⟩
           ·replace c58 := Bool.eq_false_iff.mpr c58
            subst c58
            have H1 : (if (t249.length : Int) = 0 then ((besomlaw09_awake.f).bind fun t282 => (some t282)) else (if 0 ≤ (Int.tmod (wrap64 (a3)) (t249.length : Int)) then (if (Int.tmod (wrap64 (a3)) (t249.length : Int)) < (t249.length : Int) then ((protest_Why.f l0 a1 l2 (rdOf ByteArray.empty t249 (Int.tmod (wrap64 (a3)) (t249.length : Int)))).bind fun bt284 => ((protest_Proves.f l0 a1 l2 bt284.1 (rdOf ByteArray.empty t249 (Int.tmod (wrap64 (a3)) (t249.length : Int)))).bind fun bt288 => (if bt284.2 = 0 then (if bt288.2.2 = 0 then (if bt288.1 = true then (if bt288.2.1 = (-1) then ((besomref09_Has.f kj36 l2 (rdOf ByteArray.empty t249 (Int.tmod (wrap64 (a3)) (t249.length : Int)))).bind fun t291 => (besomlaw09_ProtestModel.j3 kj36 l0 a1 l2 a4 (rdOf ByteArray.empty t249 (Int.tmod (wrap64 (a3)) (t249.length : Int))) bt284.1 (((bt284.1.length : Int) == 0) != t291))) else (besomlaw09_ProtestModel.j3 kj36 l0 a1 l2 a4 (rdOf ByteArray.empty t249 (Int.tmod (wrap64 (a3)) (t249.length : Int))) bt284.1 true)) else (besomlaw09_ProtestModel.j3 kj36 l0 a1 l2 a4 (rdOf ByteArray.empty t249 (Int.tmod (wrap64 (a3)) (t249.length : Int))) bt284.1 true)) else (besomlaw09_ProtestModel.j3 kj36 l0 a1 l2 a4 (rdOf ByteArray.empty t249 (Int.tmod (wrap64 (a3)) (t249.length : Int))) bt284.1 true)) else (besomlaw09_ProtestModel.j3 kj36 l0 a1 l2 a4 (rdOf ByteArray.empty t249 (Int.tmod (wrap64 (a3)) (t249.length : Int))) bt284.1 true)))) else (none)) else (none))) = some r := by rw [if_neg (show ¬ (false = true) by decide)] at H; exact H
            clear H
            have H := H1
            clear H1
            by_cases c59 : (t249.length : Int) = 0
            ·rw [if_pos c59] at H
             have c59b0 : ((t249.length : Int) == 0) = true := beq_iff_eq.mpr c59
             have c59b1 : ((t249.length : Int) != 0) = false := bne_eq_false_iff_eq.mpr c59
             clear c59
             replace H := Option.bind_eq_some_iff.mp H
             obtain ⟨t282, A600, H⟩ := H
             replace H : (some t282) = some r := H
             have A60 := Aside0.mk A600
             clear A600
             obtain rfl := Option.some.inj H
             obtain ⟨Ao61, co61, eo61⟩ := Kd.R_slice HO_11.out
             subst eo61
             go_wp2_with (first | ((with_reducible refine gate_callee (f := 11) rfl ?_); refine goesL_ (some 94) rfl rfl Tryz.func11 (by kernel_rfl) rfl #[] rfl (by (try simp only [List.map_toArray, List.map_cons, List.map_nil]); first | done | rfl | (simp only [List.length_drop, List.length_take]; rfl)) ?_; (with_reducible refine (besomlaw09_awake.calls  t282 _ A60.out).mono ?_); rintro e w62 ⟨rfl, hb⟩; refine ⟨_, rfl, ?_⟩; have n0_ := Aside0.mk (Kd.R_below (by (with_reducible repeat (first | apply Kd.R_alloc | apply Kd.R_drewN | apply Kd.R_drew)); exact HO_11.out) hb); have n1_ := Aside0.mk (below_step (by repeat (first | (with_reducible first | exact HB.out | apply below_alloc | apply pw_below_drewN | apply below_drew1) | exact HB.out)) hb); clear HO_11; clear HB; have HO_11 := n0_; have HB := n1_; clear n0_ n1_; (try clear hb); (try clear hb2); (try clear hk); (try clear hi)))
             go_ret
             exact ⟨by first | rfl | (simp [errW_none, errW_some] <;> rfl) | (simp [*, errW_none, errW_some] <;> rfl), by repeat (first | (with_reducible first | exact HB.out | apply below_alloc | apply pw_below_drewN | apply below_drew1) | exact HB.out)⟩
            ·rw [if_neg c59] at H
             have c59b0 : ((t249.length : Int) == 0) = false := beq_eq_false_iff_ne.mpr c59
             have c59b1 : ((t249.length : Int) != 0) = true := bne_iff_ne.mpr c59
             have c59b2 : ¬ (t249 = []) := fun h_ => c59 (by rw [h_]; rfl)
             obtain ⟨ji63, hji63⟩ : ∃ j_ : Int, (Int.tmod (wrap64 (a3)) (t249.length : Int)) = j_ := ⟨_, rfl⟩
             replace H : (if 0 ≤ (ji63) then (if (ji63) < (t249.length : Int) then ((protest_Why.f l0 a1 l2 (rdOf ByteArray.empty t249 (ji63))).bind fun bt284 => ((protest_Proves.f l0 a1 l2 bt284.1 (rdOf ByteArray.empty t249 (ji63))).bind fun bt288 => (if bt284.2 = 0 then (if bt288.2.2 = 0 then (if bt288.1 = true then (if bt288.2.1 = (-1) then ((besomref09_Has.f kj36 l2 (rdOf ByteArray.empty t249 (ji63))).bind fun t291 => (besomlaw09_ProtestModel.j3 kj36 l0 a1 l2 a4 (rdOf ByteArray.empty t249 (ji63)) bt284.1 (((bt284.1.length : Int) == 0) != t291))) else (besomlaw09_ProtestModel.j3 kj36 l0 a1 l2 a4 (rdOf ByteArray.empty t249 (ji63)) bt284.1 true)) else (besomlaw09_ProtestModel.j3 kj36 l0 a1 l2 a4 (rdOf ByteArray.empty t249 (ji63)) bt284.1 true)) else (besomlaw09_ProtestModel.j3 kj36 l0 a1 l2 a4 (rdOf ByteArray.empty t249 (ji63)) bt284.1 true)) else (besomlaw09_ProtestModel.j3 kj36 l0 a1 l2 a4 (rdOf ByteArray.empty t249 (ji63)) bt284.1 true)))) else (none)) else (none)) = some r := by first | (rw [hji63] at H; exact H) | (simp only [hji63] at H ⊢; exact H)
             by_cases c64 : 0 ≤ (ji63)
             ·rw [if_pos c64] at H
              have c64b0 : decide (0 ≤ (ji63)) = true := decide_eq_true c64
              clear c64
              by_cases c65 : (ji63) < (t249.length : Int)
              ·rw [if_pos c65] at H
               have c65b0 : decide ((ji63) < (t249.length : Int)) = true := decide_eq_true c65
               clear c65
               replace H := Option.bind_eq_some_iff.mp H
               obtain ⟨⟨t284, t285⟩, A660, H⟩ := H
               replace H : ((protest_Proves.f l0 a1 l2 t284 (rdOf ByteArray.empty t249 (ji63))).bind fun bt288 => (if t285 = 0 then (if bt288.2.2 = 0 then (if bt288.1 = true then (if bt288.2.1 = (-1) then ((besomref09_Has.f kj36 l2 (rdOf ByteArray.empty t249 (ji63))).bind fun t291 => (besomlaw09_ProtestModel.j3 kj36 l0 a1 l2 a4 (rdOf ByteArray.empty t249 (ji63)) t284 (((t284.length : Int) == 0) != t291))) else (besomlaw09_ProtestModel.j3 kj36 l0 a1 l2 a4 (rdOf ByteArray.empty t249 (ji63)) t284 true)) else (besomlaw09_ProtestModel.j3 kj36 l0 a1 l2 a4 (rdOf ByteArray.empty t249 (ji63)) t284 true)) else (besomlaw09_ProtestModel.j3 kj36 l0 a1 l2 a4 (rdOf ByteArray.empty t249 (ji63)) t284 true)) else (besomlaw09_ProtestModel.j3 kj36 l0 a1 l2 a4 (rdOf ByteArray.empty t249 (ji63)) t284 true))) = some r := H
               have A66 := Aside0.mk A660
               clear A660
               replace H := Option.bind_eq_some_iff.mp H
               obtain ⟨⟨t288, t289, t290⟩, A670, H⟩ := H
               replace H : (if t285 = 0 then (if t290 = 0 then (if t288 = true then (if t289 = (-1) then ((besomref09_Has.f kj36 l2 (rdOf ByteArray.empty t249 (ji63))).bind fun t291 => (besomlaw09_ProtestModel.j3 kj36 l0 a1 l2 a4 (rdOf ByteArray.empty t249 (ji63)) t284 (((t284.length : Int) == 0) != t291))) else (besomlaw09_ProtestModel.j3 kj36 l0 a1 l2 a4 (rdOf ByteArray.empty t249 (ji63)) t284 true)) else (besomlaw09_ProtestModel.j3 kj36 l0 a1 l2 a4 (rdOf ByteArray.empty t249 (ji63)) t284 true)) else (besomlaw09_ProtestModel.j3 kj36 l0 a1 l2 a4 (rdOf ByteArray.empty t249 (ji63)) t284 true)) else (besomlaw09_ProtestModel.j3 kj36 l0 a1 l2 a4 (rdOf ByteArray.empty t249 (ji63)) t284 true)) = some r := H
               have A67 := Aside0.mk A670
               clear A670
               have HC68 := Aside0.mk H
               clear H
               obtain ⟨Ao69, co69, eo69⟩ := Kd.R_slice HO_11.out
               subst eo69
               have p283 : 0 ≤ ((ji63) : Int) := of_decide_eq_true (by first | (with_reducible assumption) | assumption)
               have q283 : (ji63) < (t249.length : Int) := of_decide_eq_true (by first | (with_reducible assumption) | assumption)
               obtain ⟨ad283, e283, hx283_0⟩ := Kd.at_string (Kd.R_reads' HO_11.out).2.2 (ji63) p283 q283
               cases e283
               replace p283 := eq_true p283
               replace q283 := eq_true q283
               go_upto_region 21 with (first | ((with_reducible refine gate_callee (f := 20) rfl ?_); refine goesL_ (some 108) rfl rfl Tryz.func20 (by kernel_rfl) rfl #[.slice A0 l0.length c0, .int .i64 a1, .slice A2 l2.length c2, .string (rdOf ByteArray.empty t249 (ji63))] rfl (by (try simp only [List.map_toArray, List.map_cons, List.map_nil]); first | done | (simp only [hji63]; rfl) | rfl | (simp only [List.length_drop, List.length_take]; rfl)) ?_; (with_reducible refine (protest_Why.calls _ _ l0 a1 _ _ l2 (rdOf ByteArray.empty t249 (ji63)) t284 t285 _ ?side1 ?side2 ?side3 ?side4 A66.out).mono ?_); (case side1 => repeat (first | exact (Kd.C_below HR0.out HB.out) | (with_reducible refine Kd.C_alloc ?_ _) | (with_reducible refine Kd.C_drewN ?_ _) | (with_reducible refine Kd.C_drew ?_))); (case side2 => exact HC0.out); (case side3 => repeat (first | exact (Kd.C_below HR2.out HB.out) | (with_reducible refine Kd.C_alloc ?_ _) | (with_reducible refine Kd.C_drewN ?_ _) | (with_reducible refine Kd.C_drew ?_))); (case side4 => exact HC2.out); rintro e w70 ⟨v286, rfl, ho0, hb⟩; refine ⟨_, rfl, ?_⟩; have n0_ := Aside0.mk (Kd.R_below (by (with_reducible repeat (first | apply Kd.R_alloc | apply Kd.R_drewN | apply Kd.R_drew)); exact HO_11.out) hb); have n1_ := Aside0.mk (Kd.R_lower ho0 (below_size (by repeat (first | (with_reducible first | exact HB.out | apply below_alloc | apply pw_below_drewN | apply below_drew1) | exact HB.out)))); have n2_ := Aside0.mk (below_step (by repeat (first | (with_reducible first | exact HB.out | apply below_alloc | apply pw_below_drewN | apply below_drew1) | exact HB.out)) hb); clear HO_11; clear HB; have HO_11 := n0_; have HO287 := n1_; have HB := n2_; clear n0_ n1_ n2_; (try clear hb); (try clear hb2); (try clear hk); (try clear hi); (try clear ho0); obtain ⟨Ao71, co71, eo71⟩ := Kd.R_slice HO287.out; subst eo71) | ((with_reducible refine gate_callee (f := 29) rfl ?_); refine goesL_ (some 117) rfl rfl Tryz.func29 (by kernel_rfl) rfl #[.slice A0 l0.length c0, .int .i64 a1, .slice A2 l2.length c2, .slice Ao71 t284.length co71, .string (rdOf ByteArray.empty t249 (ji63))] rfl (by (try simp only [List.map_toArray, List.map_cons, List.map_nil]); first | done | (simp only [hji63]; rfl) | rfl | (simp only [List.length_drop, List.length_take]; rfl)) ?_; (with_reducible refine (protest_Proves.calls _ _ l0 a1 _ _ l2 _ _ t284 (rdOf ByteArray.empty t249 (ji63)) t288 t289 t290 _ ?side1 ?side2 ?side3 ?side4 ?side5 ?side6 A67.out).mono ?_); (case side1 => repeat (first | exact (Kd.C_below HR0.out HB.out) | (with_reducible refine Kd.C_alloc ?_ _) | (with_reducible refine Kd.C_drewN ?_ _) | (with_reducible refine Kd.C_drew ?_))); (case side2 => exact HC0.out); (case side3 => repeat (first | exact (Kd.C_below HR2.out HB.out) | (with_reducible refine Kd.C_alloc ?_ _) | (with_reducible refine Kd.C_drewN ?_ _) | (with_reducible refine Kd.C_drew ?_))); (case side4 => exact HC2.out); (case side5 => repeat (first | exact (Kd.R_reads' HO287.out).2.2 | (with_reducible refine Kd.C_alloc ?_ _) | (with_reducible refine Kd.C_drewN ?_ _) | (with_reducible refine Kd.C_drew ?_))); (case side6 => exact (Kd.R_reads' HO287.out).2.1); rintro e w72 ⟨rfl, hb⟩; refine ⟨_, rfl, ?_⟩; have n0_ := Aside0.mk (Kd.R_below (by (with_reducible repeat (first | apply Kd.R_alloc | apply Kd.R_drewN | apply Kd.R_drew)); exact HO_11.out) hb); have n1_ := Aside0.mk (Kd.R_below (by (with_reducible repeat (first | apply Kd.R_alloc | apply Kd.R_drewN | apply Kd.R_drew)); exact HO287.out) hb); have n2_ := Aside0.mk (below_step (by repeat (first | (with_reducible first | exact HB.out | apply below_alloc | apply pw_below_drewN | apply below_drew1) | exact HB.out)) hb); clear HO_11; clear HO287; clear HB; have HO_11 := n0_; have HO287 := n1_; have HB := n2_; clear n0_ n1_ n2_; (try clear hb); (try clear hb2); (try clear hk); (try clear hi)))
               (try simp only [Act.put, List.setIfInBounds_toArray, List.set_cons_zero, List.set_cons_succ])
               go_cut [143] (fun v143 wc => ∃ (kq : Nat) (x143_67 : Bool), v143 = .bool x143_67 ∧ Aside0 (besomlaw09_ProtestModel.j3 kq l0 a1 l2 a4 (rdOf ByteArray.empty t249 (ji63)) t284 x143_67 = some r) ∧ Aside0 (kq ≤ kj36) ∧ Aside0 (Kd.R (Kd.int .i64) 3 wc w.heap.size (fun _ => True) (.slice Ao71 t284.length co71) t284) ∧ Aside0 (Below w.heap.size w wc))
               case first =>
                have H := HC68.out
                clear HC68
                by_cases c73 : t285 = 0
                ·rw [if_pos c73] at H
                 have c73b0 : (t285 == 0) = true := beq_iff_eq.mpr c73
                 have c73b1 : (t285 != 0) = false := bne_eq_false_iff_eq.mpr c73
                 clear c73
                 (first | rw [c73b0] | (simp only [i64_w, i32_w]; rw [c73b0]) | skip)
                 by_cases c74 : t290 = 0
                 ·rw [if_pos c74] at H
                  have c74b0 : (t290 == 0) = true := beq_iff_eq.mpr c74
                  have c74b1 : (t290 != 0) = false := bne_eq_false_iff_eq.mpr c74
                  clear c74
                  by_cases c75 : t288 = true
                  ·subst c75
                   have H1 : (if t289 = (-1) then ((besomref09_Has.f kj36 l2 (rdOf ByteArray.empty t249 (ji63))).bind fun t291 => (besomlaw09_ProtestModel.j3 kj36 l0 a1 l2 a4 (rdOf ByteArray.empty t249 (ji63)) t284 (((t284.length : Int) == 0) != t291))) else (besomlaw09_ProtestModel.j3 kj36 l0 a1 l2 a4 (rdOf ByteArray.empty t249 (ji63)) t284 true)) = some r := by rw [if_pos rfl] at H; exact H
                   clear H
                   have H := H1
                   clear H1
                   by_cases c76 : t289 = (-1)
                   ·rw [if_pos c76] at H
                    have c76b0 : (t289 == (-1)) = true := beq_iff_eq.mpr c76
                    have c76b1 : (t289 != (-1)) = false := bne_eq_false_iff_eq.mpr c76
                    clear c76
                    replace H := Option.bind_eq_some_iff.mp H
                    obtain ⟨t291, A770, H⟩ := H
                    replace H : (besomlaw09_ProtestModel.j3 kj36 l0 a1 l2 a4 (rdOf ByteArray.empty t249 (ji63)) t284 (((t284.length : Int) == 0) != t291)) = some r := H
                    have A77 := Aside0.mk A770
                    clear A770
                    have H' := Aside0.mk H
                    clear H
                    go_wp2_with (first | (go_at_call 30; (with_reducible refine (besomref09_Has.calls kj36 _ _ l2 (rdOf ByteArray.empty t249 (ji63)) t291 _ ?side1 ?side2 A77.out).mono ?_); (case side1 => repeat (first | exact (Kd.C_below HR2.out HB.out) | (with_reducible refine Kd.C_alloc ?_ _) | (with_reducible refine Kd.C_drewN ?_ _) | (with_reducible refine Kd.C_drew ?_))); (case side2 => exact HC2.out); rintro e w' ⟨rfl, ⟨nd, rfl⟩⟩))
                    go_meet
                    case rel => exact ⟨_, ((((t284.length : Int) == 0) != t291)), (by first | rfl | (simp; done) | (simp [*]; done)), H', ⟨by have := HJ11.out; have := HK2.out; have := HJ36.out; first | omega | exact Nat.le_refl _⟩, ⟨by (with_reducible repeat (first | apply Kd.R_alloc | apply Kd.R_drewN | apply Kd.R_drew)); exact HO287.out⟩, ⟨by repeat (first | (with_reducible first | exact HB.out | apply below_alloc | apply pw_below_drewN | apply below_drew1) | exact HB.out)⟩⟩
                   ·rw [if_neg c76] at H
                    have c76b0 : (t289 == (-1)) = false := beq_eq_false_iff_ne.mpr c76
                    have c76b1 : (t289 != (-1)) = true := bne_iff_ne.mpr c76
                    have H' := Aside0.mk H
                    clear H
                    go_wp2
                    go_meet
                    case rel => exact ⟨_, (true), (by first | rfl | (simp; done) | (simp [*]; done)), H', ⟨by have := HJ11.out; have := HK2.out; have := HJ36.out; first | omega | exact Nat.le_refl _⟩, ⟨by (with_reducible repeat (first | apply Kd.R_alloc | apply Kd.R_drewN | apply Kd.R_drew)); exact HO287.out⟩, ⟨by repeat (first | (with_reducible first | exact HB.out | apply below_alloc | apply pw_below_drewN | apply below_drew1) | exact HB.out)⟩⟩
                  ·replace c75 := Bool.eq_false_iff.mpr c75
                   subst c75
                   have H1 : (besomlaw09_ProtestModel.j3 kj36 l0 a1 l2 a4 (rdOf ByteArray.empty t249 (ji63)) t284 true) = some r := by rw [if_neg (show ¬ (false = true) by decide)] at H; exact H
                   clear H
                   have H := H1
                   clear H1
                   have H' := Aside0.mk H
                   clear H
                   go_wp2
                   go_meet
                   case rel => exact ⟨_, (true), (by first | rfl | (simp; done) | (simp [*]; done)), H', ⟨by have := HJ11.out; have := HK2.out; have := HJ36.out; first | omega | exact Nat.le_refl _⟩, ⟨by (with_reducible repeat (first | apply Kd.R_alloc | apply Kd.R_drewN | apply Kd.R_drew)); exact HO287.out⟩, ⟨by repeat (first | (with_reducible first | exact HB.out | apply below_alloc | apply pw_below_drewN | apply below_drew1) | exact HB.out)⟩⟩
                 ·rw [if_neg c74] at H
                  have c74b0 : (t290 == 0) = false := beq_eq_false_iff_ne.mpr c74
                  have c74b1 : (t290 != 0) = true := bne_iff_ne.mpr c74
                  have H' := Aside0.mk H
                  clear H
                  go_wp2
                  go_meet
                  case rel => exact ⟨_, (true), (by first | rfl | (simp; done) | (simp [*]; done)), H', ⟨by have := HJ11.out; have := HK2.out; have := HJ36.out; first | omega | exact Nat.le_refl _⟩, ⟨by (with_reducible repeat (first | apply Kd.R_alloc | apply Kd.R_drewN | apply Kd.R_drew)); exact HO287.out⟩, ⟨by repeat (first | (with_reducible first | exact HB.out | apply below_alloc | apply pw_below_drewN | apply below_drew1) | exact HB.out)⟩⟩
                ·rw [if_neg c73] at H
                 have c73b0 : (t285 == 0) = false := beq_eq_false_iff_ne.mpr c73
                 have c73b1 : (t285 != 0) = true := bne_iff_ne.mpr c73
                 (first | rw [c73b0] | (simp only [i64_w, i32_w]; rw [c73b0]) | skip)
                 have H' := Aside0.mk H
                 clear H
                 go_wp2
                 go_meet
                 case rel => exact ⟨_, (true), (by first | rfl | (simp; done) | (simp [*]; done)), H', ⟨by have := HJ11.out; have := HK2.out; have := HJ36.out; first | omega | exact Nat.le_refl _⟩, ⟨by (with_reducible repeat (first | apply Kd.R_alloc | apply Kd.R_drewN | apply Kd.R_drew)); exact HO287.out⟩, ⟨by repeat (first | (with_reducible first | exact HB.out | apply below_alloc | apply pw_below_drewN | apply below_drew1) | exact HB.out)⟩⟩
               case rest =>
                clear HC68
                try clear c1
                try clear c2
                try clear p2
                try clear q2
                try clear hx2
                try clear c3
                try clear c4
                try clear c5
                try clear c6
                try clear p6
                try clear c7
                try clear c10
                try clear c11
                try clear c11b0
                try clear c11b1
                try clear c16
                try clear c18
                try clear c20
                try clear c24
                try clear c26
                try clear p26
                try clear q26
                try clear hx26
                try clear c27
                try clear c27b0
                try clear c28
                try clear c28b0
                try clear p28
                try clear q28
                try clear hx28
                try clear c29
                try clear c30
                try clear c31
                try clear c39
                try clear c39b0
                try clear c39b1
                try clear c44
                try clear c45
                try clear c58
                try clear c59
                try clear c59b0
                try clear c59b1
                try clear c59b2
                try clear c64
                try clear c64b0
                try clear p64
                try clear c65
                try clear c65b0
                try clear c73
                try clear c73b0
                try clear c73b1
                try clear c74
                try clear c74b0
                try clear c74b1
                try clear c75
                try clear c76
                try clear c76b0
                try clear c76b1
                try clear hx261_0
                try clear hx261_1
                try clear hx261_2
                try clear hx261_3
                try clear hx261_4
                try clear hx261_5
                try clear hx263_0
                try clear hx263_1
                try clear hx263_2
                try clear hx263_3
                try clear hx263_4
                try clear hx263_5
                try clear hx283_0
                try clear p2
                try clear p26
                try clear p261
                try clear p263
                try clear p283
                try clear p6
                try clear q2
                try clear q26
                try clear q261
                try clear q263
                try clear q283
                obtain ⟨kq, x143_67, rfl, HA, HJ67, HO_16, HB⟩ := hcut
                cases kq with
                | zero => exact absurd HA.out (by simp [besomlaw09_ProtestModel.j3])
                | succ kj67 =>
                 have H := HA.out
                 clear HA
                 simp only [besomlaw09_ProtestModel.j3] at H
                 by_cases c78 : x143_67 = true
                 ·subst c78
                  have H1 : (some false) = some r := by rw [if_pos rfl] at H; exact H
                  clear H
                  have H := H1
                  clear H1
                  obtain rfl := Option.some.inj H
                  go_wp2
                  go_ret
                  exact ⟨by first | rfl | (simp [errW_none, errW_some] <;> rfl) | (simp only [← hji63]; first | rfl | (simp [errW_none, errW_some] <;> rfl)) | (simp [*, errW_none, errW_some] <;> rfl), by repeat (first | (with_reducible first | exact HB.out | apply below_alloc | apply pw_below_drewN | apply below_drew1) | exact HB.out)⟩
                 ·replace c78 := Bool.eq_false_iff.mpr c78
                  subst c78
                  have H1 : (if (t284.length : Int) = 0 then ((besomlaw09_awake.f).bind fun t292 => (some t292)) else ((some (([] : List Int) : List Int)).bind fun y293 => (if 0 ≤ (Int.tmod (wrap64 (a4)) (t284.length : Int)) then (if (Int.tmod (wrap64 (a4)) (t284.length : Int)) ≤ (t284.length : Int) then ((some (t284.take ((Int.tmod (wrap64 (a4)) (t284.length : Int)) : Int).toNat : List Int)).bind fun y296 => (if y293.length + y296.length < 17592186044416 then ((some (y293 ++ y296 : List Int)).bind fun y300 => (if 0 ≤ (wrap64 ((Int.tmod (wrap64 (a4)) (t284.length : Int)) + 1)) then (if (wrap64 ((Int.tmod (wrap64 (a4)) (t284.length : Int)) + 1)) ≤ (t284.length : Int) then ((some (t284.drop ((wrap64 ((Int.tmod (wrap64 (a4)) (t284.length : Int)) + 1)) : Int).toNat : List Int)).bind fun y303 => (if y300.length + y303.length < 17592186044416 then ((protest_Proves.f l0 a1 l2 (y300 ++ y303) (rdOf ByteArray.empty t249 (ji63))).bind fun bt310 => (if bt310.1 = true then (some false) else (if bt310.2.2 = 0 then ((besomlaw09_awake.f).bind fun t313 => (some t313)) else (some false)))) else (none))) else (none)) else (none))) else (none))) else (none)) else (none)))) = some r := by rw [if_neg (show ¬ (false = true) by decide)] at H; exact H
                  clear H
                  have H := H1
                  clear H1
                  by_cases c79 : (t284.length : Int) = 0
                  ·rw [if_pos c79] at H
                   have c79b0 : ((t284.length : Int) == 0) = true := beq_iff_eq.mpr c79
                   have c79b1 : ((t284.length : Int) != 0) = false := bne_eq_false_iff_eq.mpr c79
                   clear c79
                   replace H := Option.bind_eq_some_iff.mp H
                   obtain ⟨t292, A800, H⟩ := H
                   replace H : (some t292) = some r := H
                   have A80 := Aside0.mk A800
                   clear A800
                   obtain rfl := Option.some.inj H
                   go_wp2_with (first | ((with_reducible refine gate_callee (f := 11) rfl ?_); refine goesL_ (some 147) rfl rfl Tryz.func11 (by kernel_rfl) rfl #[] rfl (by (try simp only [List.map_toArray, List.map_cons, List.map_nil]); first | done | rfl | (simp only [List.length_drop, List.length_take]; rfl)) ?_; (with_reducible refine (besomlaw09_awake.calls  t292 _ A80.out).mono ?_); rintro e w81 ⟨rfl, hb⟩; refine ⟨_, rfl, ?_⟩; have n0_ := Aside0.mk (Kd.R_below (by (with_reducible repeat (first | apply Kd.R_alloc | apply Kd.R_drewN | apply Kd.R_drew)); exact HO_16.out) hb); have n1_ := Aside0.mk (below_step (by repeat (first | (with_reducible first | exact HB.out | apply below_alloc | apply pw_below_drewN | apply below_drew1) | exact HB.out)) hb); clear HO_16; clear HB; have HO_16 := n0_; have HB := n1_; clear n0_ n1_; (try clear hb); (try clear hb2); (try clear hk); (try clear hi)))
                   go_ret
                   exact ⟨by first | rfl | (simp [errW_none, errW_some] <;> rfl) | (simp only [← hji63]; first | rfl | (simp [errW_none, errW_some] <;> rfl)) | (simp [*, errW_none, errW_some] <;> rfl), by repeat (first | (with_reducible first | exact HB.out | apply below_alloc | apply pw_below_drewN | apply below_drew1) | exact HB.out)⟩
                  ·rw [if_neg c79] at H
                   have c79b0 : ((t284.length : Int) == 0) = false := beq_eq_false_iff_ne.mpr c79
                   have c79b1 : ((t284.length : Int) != 0) = true := bne_iff_ne.mpr c79
                   have c79b2 : ¬ (t284 = []) := fun h_ => c79 (by rw [h_]; rfl)
                   obtain ⟨y293, hy293⟩ : ∃ y_ : List Int, y_ = (([] : List Int)) := ⟨_, rfl⟩
                   replace H : (if 0 ≤ (Int.tmod (wrap64 (a4)) (t284.length : Int)) then (if (Int.tmod (wrap64 (a4)) (t284.length : Int)) ≤ (t284.length : Int) then ((some (t284.take ((Int.tmod (wrap64 (a4)) (t284.length : Int)) : Int).toNat : List Int)).bind fun y296 => (if y293.length + y296.length < 17592186044416 then ((some (y293 ++ y296 : List Int)).bind fun y300 => (if 0 ≤ (wrap64 ((Int.tmod (wrap64 (a4)) (t284.length : Int)) + 1)) then (if (wrap64 ((Int.tmod (wrap64 (a4)) (t284.length : Int)) + 1)) ≤ (t284.length : Int) then ((some (t284.drop ((wrap64 ((Int.tmod (wrap64 (a4)) (t284.length : Int)) + 1)) : Int).toNat : List Int)).bind fun y303 => (if y300.length + y303.length < 17592186044416 then ((protest_Proves.f l0 a1 l2 (y300 ++ y303) (rdOf ByteArray.empty t249 (ji63))).bind fun bt310 => (if bt310.1 = true then (some false) else (if bt310.2.2 = 0 then ((besomlaw09_awake.f).bind fun t313 => (some t313)) else (some false)))) else (none))) else (none)) else (none))) else (none))) else (none)) else (none)) = some r := by first | (rw [hy293]; with_reducible exact H) | (have H2_ := (Option.bind_some _ _).symm.trans H; rw [hy293]; with_reducible exact H2_) | (have H2_ := (Option.bind_some _ _).symm.trans H; with_reducible exact H2_) | with_reducible exact H | (rw [hy293]; exact H) | exact H
                   have Ny293 := Aside0.mk hy293
                   clear hy293
                   obtain ⟨ji82, hji82⟩ : ∃ j_ : Int, (Int.tmod (wrap64 (a4)) (t284.length : Int)) = j_ := ⟨_, rfl⟩
                   replace H : (if 0 ≤ (ji82) then (if (ji82) ≤ (t284.length : Int) then ((some (t284.take ((ji82) : Int).toNat : List Int)).bind fun y296 => (if y293.length + y296.length < 17592186044416 then ((some (y293 ++ y296 : List Int)).bind fun y300 => (if 0 ≤ (wrap64 ((ji82) + 1)) then (if (wrap64 ((ji82) + 1)) ≤ (t284.length : Int) then ((some (t284.drop ((wrap64 ((ji82) + 1)) : Int).toNat : List Int)).bind fun y303 => (if y300.length + y303.length < 17592186044416 then ((protest_Proves.f l0 a1 l2 (y300 ++ y303) (rdOf ByteArray.empty t249 (ji63))).bind fun bt310 => (if bt310.1 = true then (some false) else (if bt310.2.2 = 0 then ((besomlaw09_awake.f).bind fun t313 => (some t313)) else (some false)))) else (none))) else (none)) else (none))) else (none))) else (none)) else (none)) = some r := by first | (rw [hji82] at H; exact H) | (simp only [hji82] at H ⊢; exact H)
                   by_cases c83 : 0 ≤ (ji82)
                   ·rw [if_pos c83] at H
                    have c83b0 := eq_true c83
                    have c83b1 : decide (0 ≤ (ji82)) = true := decide_eq_true c83
                    clear c83
                    by_cases c84 : (ji82) ≤ (t284.length : Int)
                    ·rw [if_pos c84] at H
                     have c84b0 := eq_true c84
                     have c84b1 : decide ((ji82) ≤ (t284.length : Int)) = true := decide_eq_true c84
                     clear c84
                     obtain ⟨y296, hy296⟩ : ∃ y_ : List Int, y_ = (t284.take ((ji82) : Int).toNat) := ⟨_, rfl⟩
                     replace H : (if y293.length + y296.length < 17592186044416 then ((some (y293 ++ y296 : List Int)).bind fun y300 => (if 0 ≤ (wrap64 ((ji82) + 1)) then (if (wrap64 ((ji82) + 1)) ≤ (t284.length : Int) then ((some (t284.drop ((wrap64 ((ji82) + 1)) : Int).toNat : List Int)).bind fun y303 => (if y300.length + y303.length < 17592186044416 then ((protest_Proves.f l0 a1 l2 (y300 ++ y303) (rdOf ByteArray.empty t249 (ji63))).bind fun bt310 => (if bt310.1 = true then (some false) else (if bt310.2.2 = 0 then ((besomlaw09_awake.f).bind fun t313 => (some t313)) else (some false)))) else (none))) else (none)) else (none))) else (none)) = some r := by first | (rw [hy296]; with_reducible exact H) | (have H2_ := (Option.bind_some _ _).symm.trans H; rw [hy296]; with_reducible exact H2_) | (have H2_ := (Option.bind_some _ _).symm.trans H; with_reducible exact H2_) | with_reducible exact H | (rw [hy296]; exact H) | exact H
                     have Ny296 := Aside0.mk hy296
                     clear hy296
                     by_cases c85 : y293.length + y296.length < 17592186044416
                     ·rw [if_pos c85] at H
                      have LMc85 := Aside0.mk c85
                      clear c85
                      obtain ⟨y300, hy300⟩ : ∃ y_ : List Int, y_ = (y293 ++ y296) := ⟨_, rfl⟩
                      replace H : (if 0 ≤ (wrap64 ((ji82) + 1)) then (if (wrap64 ((ji82) + 1)) ≤ (t284.length : Int) then ((some (t284.drop ((wrap64 ((ji82) + 1)) : Int).toNat : List Int)).bind fun y303 => (if y300.length + y303.length < 17592186044416 then ((protest_Proves.f l0 a1 l2 (y300 ++ y303) (rdOf ByteArray.empty t249 (ji63))).bind fun bt310 => (if bt310.1 = true then (some false) else (if bt310.2.2 = 0 then ((besomlaw09_awake.f).bind fun t313 => (some t313)) else (some false)))) else (none))) else (none)) else (none)) = some r := by first | (rw [hy300]; with_reducible exact H) | (have H2_ := (Option.bind_some _ _).symm.trans H; rw [hy300]; with_reducible exact H2_) | (have H2_ := (Option.bind_some _ _).symm.trans H; with_reducible exact H2_) | with_reducible exact H | (rw [hy300]; exact H) | exact H
                      have Ny300 := Aside0.mk hy300
                      clear hy300
                      obtain ⟨ji86, hji86⟩ : ∃ j_ : Int, (wrap64 ((ji82) + 1)) = j_ := ⟨_, rfl⟩
                      replace H : (if 0 ≤ (ji86) then (if (ji86) ≤ (t284.length : Int) then ((some (t284.drop ((ji86) : Int).toNat : List Int)).bind fun y303 => (if y300.length + y303.length < 17592186044416 then ((protest_Proves.f l0 a1 l2 (y300 ++ y303) (rdOf ByteArray.empty t249 (ji63))).bind fun bt310 => (if bt310.1 = true then (some false) else (if bt310.2.2 = 0 then ((besomlaw09_awake.f).bind fun t313 => (some t313)) else (some false)))) else (none))) else (none)) else (none)) = some r := by first | (rw [hji86] at H; exact H) | (simp only [hji86] at H ⊢; exact H)
                      have hji86w : (IntKind.i64.wrap ((ji82) + 1)) = ji86 := (i64_w _).trans hji86
                      by_cases c87 : 0 ≤ (ji86)
                      ·rw [if_pos c87] at H
                       have c87b0 := eq_true c87
                       have c87b1 : decide (0 ≤ (ji86)) = true := decide_eq_true c87
                       clear c87
                       by_cases c88 : (ji86) ≤ (t284.length : Int)
                       ·rw [if_pos c88] at H
                        have c88b0 := eq_true c88
                        have c88b1 : decide ((ji86) ≤ (t284.length : Int)) = true := decide_eq_true c88
                        clear c88
                        obtain ⟨y303, hy303⟩ : ∃ y_ : List Int, y_ = (t284.drop ((ji86) : Int).toNat) := ⟨_, rfl⟩
                        replace H : (if y300.length + y303.length < 17592186044416 then ((protest_Proves.f l0 a1 l2 (y300 ++ y303) (rdOf ByteArray.empty t249 (ji63))).bind fun bt310 => (if bt310.1 = true then (some false) else (if bt310.2.2 = 0 then ((besomlaw09_awake.f).bind fun t313 => (some t313)) else (some false)))) else (none)) = some r := by first | (rw [hy303]; with_reducible exact H) | (have H2_ := (Option.bind_some _ _).symm.trans H; rw [hy303]; with_reducible exact H2_) | (have H2_ := (Option.bind_some _ _).symm.trans H; with_reducible exact H2_) | with_reducible exact H | (rw [hy303]; exact H) | exact H
                        have Ny303 := Aside0.mk hy303
                        clear hy303
                        by_cases c89 : y300.length + y303.length < 17592186044416
                        ·rw [if_pos c89] at H
                         have LMc89 := Aside0.mk c89
                         clear c89
                         obtain ⟨y307, hy307⟩ : ∃ y_ : List Int, y_ = (y300 ++ y303) := ⟨_, rfl⟩
                         replace H : ((protest_Proves.f l0 a1 l2 y307 (rdOf ByteArray.empty t249 (ji63))).bind fun bt310 => (if bt310.1 = true then (some false) else (if bt310.2.2 = 0 then ((besomlaw09_awake.f).bind fun t313 => (some t313)) else (some false)))) = some r := by first | (rw [hy307]; with_reducible exact H) | (have H2_ := (Option.bind_some _ _).symm.trans H; rw [hy307]; with_reducible exact H2_) | (have H2_ := (Option.bind_some _ _).symm.trans H; with_reducible exact H2_) | with_reducible exact H | (rw [hy307]; exact H) | exact H
                         have Ny307 := Aside0.mk hy307
                         clear hy307
                         replace H := Option.bind_eq_some_iff.mp H
                         obtain ⟨⟨t310, t311, t312⟩, A900, H⟩ := H
                         replace H : (if t310 = true then (some false) else (if t312 = 0 then ((besomlaw09_awake.f).bind fun t313 => (some t313)) else (some false))) = some r := H
                         have A90 := Aside0.mk A900
                         clear A900
                         by_cases c91 : t310 = true
                         ·subst c91
                          have H1 : (some false) = some r := by rw [if_pos rfl] at H; exact H
                          clear H
                          have H := H1
                          clear H1
                          obtain rfl := Option.some.inj H
                          try go_wp2
                          have n0_ := Aside0.mk (Kd.R_drew HO_16.out)
                          have n1_ := Aside0.mk (below_drew1 HB.out)
                          clear HO_16
                          clear HB
                          have HO_16 := n0_
                          have HB := n1_
                          clear n0_ n1_
                          have q93 : ((ji82) : Int) ≤ ((t284.length : Int) : Int) := of_decide_eq_true (by first | (with_reducible assumption) | assumption)
                          obtain ⟨i093, hi093, _, hsz93, _⟩ := info_parts info3
                          have hroom93 : t284.length ≤ co71 := (Kd.R_reads' HO_16.out).2.1
                          have hC93 : Kd.C (Kd.int .i64) _ Ao71 t284.length t284 := (Kd.R_reads' HO_16.out).2.2
                          have hcut93 := cut_to (P := Tryz.prog) 37 3 .i64 Tryz.underlying37 hi093 Ao71 t284.length co71 (ji82) (of_decide_eq_true (by first | (with_reducible assumption) | assumption)) q93 hroom93
                          have hr93 := Kd.C_take (m := ((ji82) : Int).toNat) hC93 (by omega)
                          have hy93 : y296.length = ((ji82) : Int).toNat := (by rw [Ny296.out, List.length_take]; omega)
                          rw [← Ny296.out] at hr93
                          rw [← hy93] at hcut93
                          have HR299 := Aside0.mk hr93
                          have HC299 := Aside0.mk (show y296.length ≤ co71 from by omega)
                          clear hr93 hC93 hroom93 hi093 hsz93
                          have KY93 := Aside0.mk hy93
                          clear hy93
                          have KL93 := Aside0.mk (show ((ji82) : Int).toNat ≤ t284.length from by omega)
                          replace q93 := eq_true q93
                          have q94 : ((ji86) : Int) ≤ ((t284.length : Int) : Int) := of_decide_eq_true (by first | (with_reducible assumption) | assumption)
                          obtain ⟨i094, hi094, _, hsz94, _⟩ := info_parts info3
                          have hroom94 : t284.length ≤ co71 := (Kd.R_reads' HO_16.out).2.1
                          have hC94 : Kd.C (Kd.int .i64) _ Ao71 t284.length t284 := (Kd.R_reads' HO_16.out).2.2
                          have q094 : (0 : Int) ≤ ((ji86) : Int) := of_decide_eq_true (by first | (with_reducible assumption) | assumption)
                          have hcut94 := cut_from (P := Tryz.prog) 37 3 .i64 Tryz.underlying37 hi094 1 hsz94 Ao71 t284.length co71 (ji86) q094 q94
                          have hr94 := Kd.C_drop (m := ((ji86) : Int).toNat) (c := co71) hC94 (by omega) hroom94
                          obtain ⟨A94, hA94⟩ : ∃ A1, A1 = (if co71 = ((ji86) : Int).toNat then Ao71 else (Ao71 : Option Addr).map (·.add (((ji86) : Int).toNat * 1))) := ⟨_, rfl⟩
                          obtain ⟨c94, hc94⟩ : ∃ c1, c1 = co71 - ((ji86) : Int).toNat := ⟨_, rfl⟩
                          have hy94 : y303.length = t284.length - ((ji86) : Int).toNat := (by rw [Ny303.out, List.length_drop] <;> omega)
                          rw [show (t284).drop ((ji86) : Int).toNat = y303 from Ny303.out.symm] at hr94
                          replace hr94 : Kd.C (Kd.int .i64) _ A94 y303.length y303 := (by rw [hA94]; exact hr94)
                          rw [← hy94, ← hA94, ← hc94] at hcut94
                          have HR306 := Aside0.mk hr94
                          have HC306 := Aside0.mk (show y303.length ≤ c94 from by rw [hy94, hc94]; exact Nat.sub_le_sub_right hroom94 _)
                          clear hr94 hC94 hroom94 hi094 hsz94 hc94
                          have KY94 := Aside0.mk hy94
                          have KA94 := Aside0.mk hA94
                          clear hy94 hA94
                          have KL94 := Aside0.mk (show ((ji86) : Int).toNat ≤ t284.length from by omega)
                          replace q94 := eq_true q94
                          refine start_ (n := 11) (S := fun w' => True) (ds := []) #[false, false, false, false, false, false, false, false, false, false, false] (by kernel_rfl) rfl rfl trivial (fun hHeld => ?_); refine with_tabW besomlaw09_ProtestModel.tab26 besomlaw09_ProtestModel.bits26 (fun HT_ HW_ => ?_)
                          generalize wc.drew = w92 at HO_16 HB HR299 HR306 hHeld ⊢
                          refine pure_ (i := 1) (N := some 154) (v := ?_) (a' := ?_) #[false, true, false, false, false, false, false, false, false, false, false] rfl rfl (any_of HT_.out (by kernel_rfl)) (fun _ _ _ h => h) (Or.inl ⟨by rfl, ?_⟩) ?_ ?_
                          rotate_left
                          ·intro w'
                           go_simp
                           with_reducible rfl
                          rotate_left
                          ·simp only [Act.put, List.setIfInBounds_toArray, List.set_cons_zero, List.set_cons_succ, i64_w, i32_w]
                           rfl
                          refine pure_ (i := 2) (N := some 155) (v := ?_) (a' := ?_) #[false, true, true, false, false, false, false, false, false, false, false] rfl rfl (any_of HT_.out (by kernel_rfl)) (fun _ _ _ h => h) (Or.inl ⟨by rfl, ?_⟩) ?_ ?_
                          rotate_left
                          ·intro w'
                           go_simp
                           with_reducible rfl
                          rotate_left
                          ·simp only [Act.put, List.setIfInBounds_toArray, List.set_cons_zero, List.set_cons_succ, i64_w, i32_w]
                           rfl
                          refine pure_ (i := 3) (N := some 156) (v := ?_) (a' := ?_) #[false, true, true, true, false, false, false, false, false, false, false] rfl rfl (any_of HT_.out (by kernel_rfl)) (fun _ _ _ h => h) (Or.inl ⟨by rfl, ?_⟩) ?_ ?_
                          rotate_left
                          ·intro w'
                           go_simp
                           with_reducible rfl
                          rotate_left
                          ·simp only [Act.put, List.setIfInBounds_toArray, List.set_cons_zero, List.set_cons_succ, i64_w, i32_w]
                           rfl
                          refine pure_ (i := 5) (N := some 158) (v := ?_) (a' := ?_) #[false, true, true, true, false, true, false, false, false, false, false] rfl rfl (any_of HT_.out (by kernel_rfl)) (fun _ _ _ h => h) (Or.inl ⟨by rfl, ?_⟩) ?_ ?_
                          rotate_left
                          ·intro w'
                           go_simp
                           with_reducible rfl
                          rotate_left
                          ·simp only [Act.put, List.setIfInBounds_toArray, List.set_cons_zero, List.set_cons_succ, i64_w, i32_w]
                           rfl
                          refine pure_ (i := 6) (N := some 159) (v := ?_) (a' := ?_) #[false, true, true, true, false, true, true, false, false, false, false] rfl rfl (any_of HT_.out (by kernel_rfl)) (fun _ _ _ h => h) (Or.inl ⟨by rfl, ?_⟩) ?_ ?_
                          rotate_left
                          ·intro w'
                           go_simp
                           with_reducible rfl
                          rotate_left
                          ·simp only [Act.put, List.setIfInBounds_toArray, List.set_cons_zero, List.set_cons_succ, i64_w, i32_w]
                           rfl
                          refine pure_ (i := 7) (N := some 160) (v := ?_) (a' := ?_) #[false, true, true, true, false, true, true, true, false, false, false] rfl rfl (any_of HT_.out (by kernel_rfl)) (fun _ _ _ h => h) (Or.inl ⟨by rfl, ?_⟩) ?_ ?_
                          rotate_left
                          ·intro w'
                           go_simp
                           with_reducible rfl
                          rotate_left
                          ·simp only [Act.put, List.setIfInBounds_toArray, List.set_cons_zero, List.set_cons_succ, i64_w, i32_w]
                           rfl
                          refine pure_ (i := 8) (N := some 161) (v := ?_) (a' := ?_) #[false, true, true, true, false, true, true, true, true, false, false] rfl rfl (any_of HT_.out (by kernel_rfl)) (fun _ _ _ h => h) (Or.inl ⟨by rfl, ?_⟩) ?_ ?_
                          rotate_left
                          ·intro w'
                           go_simp
                           with_reducible rfl
                          rotate_left
                          ·simp only [Act.put, List.setIfInBounds_toArray, List.set_cons_zero, List.set_cons_succ, i64_w, i32_w]
                           rfl
                          refine one_ (i := 0) (N := some 153) #[true, true, true, true, false, true, true, true, true, false, false] rfl rfl (one_of HT_.out (by kernel_rfl)) (by decide) (fun K hK => ?_)
                          refine Kd.R_lit_step (Kd.int .i64) _ 3 ?hg (N := 153) ?hd (xs := ([] : List Int)) (inner := []) (ok := fun _ => True) (okp := fun _ => True) ?hr ?hp (fun _ hk => hk) trivial (Below.refl _ _) (Nat.le_refl _) (by simp) ?_; (case hd => rfl); (case hg => rfl); (case hr => first | (go_simp; done) | (go_simp; rfl)); (case hp => exact (Reps.none _ _))
                          intro v294 w95 ho96 hb hg_ hnew_
                          clear hg_ hnew_
                          (first | rw [← Ny293.out] at ho96 | (simp only [Int.reduceToNat] at ho96; rw [← Ny293.out] at ho96))
                          have n0_ := Aside0.mk (Kd.R_elder' (by (with_reducible repeat (first | apply Kd.R_alloc | apply Kd.R_drewN | apply Kd.R_drew)); exact HO_16.out) (Kd.R_base ho96) hb)
                          have n1_ := Aside0.mk (Kd.R_lower (Kd.R_new' ho96 (Kd.R_lt (by (with_reducible repeat (first | apply Kd.R_alloc | apply Kd.R_drewN | apply Kd.R_drew)); exact HO_16.out))) (below_size (by repeat (first | (with_reducible first | exact HB.out | apply below_alloc | apply pw_below_drewN | apply below_drew1) | exact HB.out))))
                          have n2_ := Aside0.mk (Kd.C_below (by repeat (first | (with_reducible exact HR299.out) | (with_reducible refine Kd.C_alloc ?_ _) | (with_reducible refine Kd.C_drewN ?_ _) | (with_reducible refine Kd.C_drew ?_) | exact HR299.out)) hb)
                          have n3_ := Aside0.mk (Kd.C_below (by repeat (first | (with_reducible exact HR306.out) | (with_reducible refine Kd.C_alloc ?_ _) | (with_reducible refine Kd.C_drewN ?_ _) | (with_reducible refine Kd.C_drew ?_) | exact HR306.out)) hb)
                          have n4_ := Aside0.mk (below_step (by repeat (first | (with_reducible first | exact HB.out | apply below_alloc | apply pw_below_drewN | apply below_drew1) | exact HB.out)) hb)
                          clear HO_16
                          clear HR299
                          clear HR306
                          clear HB
                          have HO_16 := n0_
                          have HO295 := n1_
                          have HR299 := n2_
                          have HR306 := n3_
                          have HB := n4_
                          clear n0_ n1_ n2_ n3_ n4_
                          clear hb ho96
                          refine hK.out _ _ trivial (fun hHeld => ?_)
                          clear hK K
                          refine norm_ (a' := ?_) ?_ ?_
                          rotate_left
                          ·show Act.put _ (some 153) _ = _
                           simp only [Act.put, List.setIfInBounds_toArray, List.set_cons_zero, List.set_cons_succ, i64_w, i32_w]
                           rfl
                          refine one_ (i := 4) (N := some 157) #[true, true, true, true, true, true, true, true, true, false, false] rfl rfl (one_of HT_.out (by kernel_rfl)) (by decide) (fun K hK => ?_)
                          refine Kd.R_append_rows_step (Kd.int .i64) (w0 := w) w.heap.size (by rfl) (.tmp 153) (.tmp 156) 37 3 (.int .i64 0) 8 rfl Tryz.underlying37 info3 rfl (by decide) (by omega) v294 y293 y296 _ _ _ (fun k_ => some k_ ≠ (.slice Ao71 t284.length co71 : Value).ownBlock) (fun _ => False) rfl rfl ?aO ?aR (fun _ _ h => h) (fun _ h => h.elim) ?aF ?aB ?aS ?aL ?_
                          (case aR => repeat (first | exact (by repeat (first | (with_reducible exact HR299.out) | (with_reducible refine Kd.C_alloc ?_ _) | (with_reducible refine Kd.C_drewN ?_ _) | (with_reducible refine Kd.C_drew ?_) | exact HR299.out)) | (with_reducible refine Kd.C_alloc ?_ _) | (with_reducible refine Kd.C_drewN ?_ _) | (with_reducible refine Kd.C_drew ?_)))
                          (case aB => exact (by repeat (first | (with_reducible first | exact HB.out | apply below_alloc | apply pw_below_drewN | apply below_drew1) | exact HB.out)))
                          (case aF => exact (fun k_ hk => Kd.fresh' (Kd.R_lt (by (with_reducible repeat (first | apply Kd.R_alloc | apply Kd.R_drewN | apply Kd.R_drew)); exact HO_16.out)) k_ hk))
                          (case aO => exact (by (with_reducible repeat (first | apply Kd.R_alloc | apply Kd.R_drewN | apply Kd.R_drew)); exact Kd.R_mono HO295.out (fun _ hk => hk.2)))
                          (case aS => exact (below_size (by repeat (first | (with_reducible first | exact HB.out | apply below_alloc | apply pw_below_drewN | apply below_drew1) | exact HB.out))))
                          (case aL => have := LMc85.out; omega)
                          intro v301 w97 ho hb hg hat
                          rw [← Ny300.out] at ho
                          have n0_ := Aside0.mk (Kd.R_after (ok := (fun _ => True)) (by (with_reducible repeat (first | apply Kd.R_alloc | apply Kd.R_drewN | apply Kd.R_drew)); exact HO_16.out) hg hat)
                          have n1_ := Aside0.mk (hb)
                          have n2_ := Aside0.mk ((show Kd.C (Kd.int .i64) w97 Ao71 y296.length y296 from by rw [Ny296.out]; exact Kd.C_take (m := ((ji82) : Int).toNat) ((Kd.R_reads' (Kd.R_after (ok := (fun _ => True)) (by (with_reducible repeat (first | apply Kd.R_alloc | apply Kd.R_drewN | apply Kd.R_drew)); exact HO_16.out) hg hat)).2.2) KL93.out))
                          have n3_ := Aside0.mk ((show Kd.C (Kd.int .i64) w97 A94 y303.length y303 from by rw [Ny303.out, KA94.out]; exact Kd.C_drop (m := ((ji86) : Int).toNat) (c := co71) ((Kd.R_reads' (Kd.R_after (ok := (fun _ => True)) (by (with_reducible repeat (first | apply Kd.R_alloc | apply Kd.R_drewN | apply Kd.R_drew)); exact HO_16.out) hg hat)).2.2) KL94.out ((Kd.R_reads' (Kd.R_after (ok := (fun _ => True)) (by (with_reducible repeat (first | apply Kd.R_alloc | apply Kd.R_drewN | apply Kd.R_drew)); exact HO_16.out) hg hat)).2.1)))
                          have n4_ := Aside0.mk (ho)
                          clear HO_16
                          clear HB
                          clear HR299
                          clear HR306
                          clear HO295
                          have HO_16 := n0_
                          have HB := n1_
                          have HR299 := n2_
                          have HR306 := n3_
                          have HO302 := n4_
                          clear n0_ n1_ n2_ n3_ n4_
                          clear ho hb hg hat
                          refine hK.out _ _ trivial (fun hHeld => ?_)
                          clear hK K
                          refine norm_ (a' := ?_) ?_ ?_
                          rotate_left
                          ·show Act.put _ (some 157) _ = _
                           simp only [Act.put, List.setIfInBounds_toArray, List.set_cons_zero, List.set_cons_succ, i64_w, i32_w]
                           rfl
                          refine one_ (i := 9) (N := some 162) #[true, true, true, true, true, true, true, true, true, true, false] rfl rfl (one_of HT_.out (by kernel_rfl)) (by decide) (fun K hK => ?_)
                          refine Kd.R_append_rows_step (Kd.int .i64) (w0 := w) w.heap.size (by rfl) (.tmp 157) (.tmp 161) 37 3 (.int .i64 0) 8 rfl Tryz.underlying37 info3 rfl (by decide) (by omega) v301 y300 y303 _ _ _ (fun k_ => some k_ ≠ (.slice Ao71 t284.length co71 : Value).ownBlock) (fun _ => False) rfl rfl ?aO ?aR (fun _ _ h => h) (fun _ h => h.elim) ?aF ?aB ?aS ?aL ?_
                          (case aR => repeat (first | exact (by repeat (first | (with_reducible exact HR306.out) | (with_reducible refine Kd.C_alloc ?_ _) | (with_reducible refine Kd.C_drewN ?_ _) | (with_reducible refine Kd.C_drew ?_) | exact HR306.out)) | (with_reducible refine Kd.C_alloc ?_ _) | (with_reducible refine Kd.C_drewN ?_ _) | (with_reducible refine Kd.C_drew ?_)))
                          (case aB => exact (by repeat (first | (with_reducible first | exact HB.out | apply below_alloc | apply pw_below_drewN | apply below_drew1) | exact HB.out)))
                          (case aF => exact (fun k_ hk => Kd.fresh' (Kd.R_lt (by (with_reducible repeat (first | apply Kd.R_alloc | apply Kd.R_drewN | apply Kd.R_drew)); exact HO_16.out)) k_ hk))
                          (case aO => exact (by (with_reducible repeat (first | apply Kd.R_alloc | apply Kd.R_drewN | apply Kd.R_drew)); exact HO302.out))
                          (case aS => exact (below_size (by repeat (first | (with_reducible first | exact HB.out | apply below_alloc | apply pw_below_drewN | apply below_drew1) | exact HB.out))))
                          (case aL => have := LMc89.out; omega)
                          intro v308 w98 ho hb hg hat
                          rw [← Ny307.out] at ho
                          have n0_ := Aside0.mk (Kd.R_after (ok := (fun _ => True)) (by (with_reducible repeat (first | apply Kd.R_alloc | apply Kd.R_drewN | apply Kd.R_drew)); exact HO_16.out) hg hat)
                          have n1_ := Aside0.mk (hb)
                          have n2_ := Aside0.mk ((show Kd.C (Kd.int .i64) w98 Ao71 y296.length y296 from by rw [Ny296.out]; exact Kd.C_take (m := ((ji82) : Int).toNat) ((Kd.R_reads' (Kd.R_after (ok := (fun _ => True)) (by (with_reducible repeat (first | apply Kd.R_alloc | apply Kd.R_drewN | apply Kd.R_drew)); exact HO_16.out) hg hat)).2.2) KL93.out))
                          have n3_ := Aside0.mk ((show Kd.C (Kd.int .i64) w98 A94 y303.length y303 from by rw [Ny303.out, KA94.out]; exact Kd.C_drop (m := ((ji86) : Int).toNat) (c := co71) ((Kd.R_reads' (Kd.R_after (ok := (fun _ => True)) (by (with_reducible repeat (first | apply Kd.R_alloc | apply Kd.R_drewN | apply Kd.R_drew)); exact HO_16.out) hg hat)).2.2) KL94.out ((Kd.R_reads' (Kd.R_after (ok := (fun _ => True)) (by (with_reducible repeat (first | apply Kd.R_alloc | apply Kd.R_drewN | apply Kd.R_drew)); exact HO_16.out) hg hat)).2.1)))
                          have n4_ := Aside0.mk (ho)
                          clear HO_16
                          clear HB
                          clear HR299
                          clear HR306
                          clear HO302
                          have HO_16 := n0_
                          have HB := n1_
                          have HR299 := n2_
                          have HR306 := n3_
                          have HO309 := n4_
                          clear n0_ n1_ n2_ n3_ n4_
                          clear ho hb hg hat
                          refine hK.out _ _ trivial (fun hHeld => ?_)
                          clear hK K
                          refine norm_ (a' := ?_) ?_ ?_
                          rotate_left
                          ·show Act.put _ (some 162) _ = _
                           simp only [Act.put, List.setIfInBounds_toArray, List.set_cons_zero, List.set_cons_succ, i64_w, i32_w]
                           rfl
                          refine pure_ (i := 10) (N := some 22) (v := ?_) (a' := ?_) #[true, true, true, true, true, true, true, true, true, true, true] rfl rfl (any_of HT_.out (by kernel_rfl)) (fun _ _ _ h => h) (Or.inl ⟨by rfl, ?_⟩) ?_ ?_
                          rotate_left
                          ·intro w'
                           go_simp
                           with_reducible rfl
                          rotate_left
                          ·simp only [Act.put, List.setIfInBounds_toArray, List.set_cons_zero, List.set_cons_succ, i64_w, i32_w]
                           rfl
                          refine done_ (done_of HT_.out (by kernel_rfl)) ?_
                          obtain ⟨Ao99, co99, eo99⟩ := Kd.R_slice HO309.out
                          subst eo99
                          try go_wp2_with (first | ((with_reducible refine gate_callee (f := 29) rfl ?_); refine goesL_ (some 169) rfl rfl Tryz.func29 (by kernel_rfl) rfl #[.slice A0 l0.length c0, .int .i64 a1, .slice A2 l2.length c2, .slice Ao99 y307.length co99, .string (rdOf ByteArray.empty t249 (ji63))] rfl (by (try simp only [List.map_toArray, List.map_cons, List.map_nil]); first | done | (simp only [hji63]; rfl) | rfl | (simp only [List.length_drop, List.length_take]; rfl)) ?_; (with_reducible refine (protest_Proves.calls _ _ l0 a1 _ _ l2 _ _ y307 (rdOf ByteArray.empty t249 (ji63)) true t311 t312 _ ?side1 ?side2 ?side3 ?side4 ?side5 ?side6 A90.out).mono ?_); (case side1 => repeat (first | exact (Kd.C_below HR0.out HB.out) | (with_reducible refine Kd.C_alloc ?_ _) | (with_reducible refine Kd.C_drewN ?_ _) | (with_reducible refine Kd.C_drew ?_))); (case side2 => exact HC0.out); (case side3 => repeat (first | exact (Kd.C_below HR2.out HB.out) | (with_reducible refine Kd.C_alloc ?_ _) | (with_reducible refine Kd.C_drewN ?_ _) | (with_reducible refine Kd.C_drew ?_))); (case side4 => exact HC2.out); (case side5 => repeat (first | exact (Kd.R_reads' HO309.out).2.2 | (with_reducible refine Kd.C_alloc ?_ _) | (with_reducible refine Kd.C_drewN ?_ _) | (with_reducible refine Kd.C_drew ?_))); (case side6 => exact (Kd.R_reads' HO309.out).2.1); rintro e w100 ⟨rfl, hb⟩; refine ⟨_, rfl, ?_⟩; have n0_ := Aside0.mk (Kd.R_below (by (with_reducible repeat (first | apply Kd.R_alloc | apply Kd.R_drewN | apply Kd.R_drew)); exact HO_16.out) hb); have n1_ := Aside0.mk (Kd.R_below (by (with_reducible repeat (first | apply Kd.R_alloc | apply Kd.R_drewN | apply Kd.R_drew)); exact HO309.out) hb); have n2_ := Aside0.mk (Kd.C_below (by repeat (first | (with_reducible exact HR299.out) | (with_reducible refine Kd.C_alloc ?_ _) | (with_reducible refine Kd.C_drewN ?_ _) | (with_reducible refine Kd.C_drew ?_) | exact HR299.out)) hb); have n3_ := Aside0.mk (Kd.C_below (by repeat (first | (with_reducible exact HR306.out) | (with_reducible refine Kd.C_alloc ?_ _) | (with_reducible refine Kd.C_drewN ?_ _) | (with_reducible refine Kd.C_drew ?_) | exact HR306.out)) hb); have n4_ := Aside0.mk (below_step (by repeat (first | (with_reducible first | exact HB.out | apply below_alloc | apply pw_below_drewN | apply below_drew1) | exact HB.out)) hb); clear HO_16; clear HO309; clear HR299; clear HR306; clear HB; have HO_16 := n0_; have HO309 := n1_; have HR299 := n2_; have HR306 := n3_; have HB := n4_; clear n0_ n1_ n2_ n3_ n4_; (try clear hb); (try clear hb2); (try clear hk); (try clear hi)))
                          go_ret
                          exact ⟨by first | rfl | (simp [errW_none, errW_some] <;> rfl) | (simp only [← hji63, ← hji82, ← hji86]; first | rfl | (simp [errW_none, errW_some] <;> rfl)) | (simp [*, errW_none, errW_some] <;> rfl), by repeat (first | (with_reducible first | exact HB.out | apply below_alloc | apply pw_below_drewN | apply below_drew1) | exact HB.out)⟩
                         ·replace c91 := Bool.eq_false_iff.mpr c91
                          subst c91
                          have H1 : (if t312 = 0 then ((besomlaw09_awake.f).bind fun t313 => (some t313)) else (some false)) = some r := by rw [if_neg (show ¬ (false = true) by decide)] at H; exact H
                          clear H
                          have H := H1
                          clear H1
                          by_cases c101 : t312 = 0
                          ·rw [if_pos c101] at H
                           have c101b0 : (t312 == 0) = true := beq_iff_eq.mpr c101
                           have c101b1 : (t312 != 0) = false := bne_eq_false_iff_eq.mpr c101
                           clear c101
                           replace H := Option.bind_eq_some_iff.mp H
                           obtain ⟨t313, A1020, H⟩ := H
                           replace H : (some t313) = some r := H
                           have A102 := Aside0.mk A1020
                           clear A1020
                           obtain rfl := Option.some.inj H
                           try go_wp2
                           have n0_ := Aside0.mk (Kd.R_drew HO_16.out)
                           have n1_ := Aside0.mk (below_drew1 HB.out)
                           clear HO_16
                           clear HB
                           have HO_16 := n0_
                           have HB := n1_
                           clear n0_ n1_
                           have q104 : ((ji82) : Int) ≤ ((t284.length : Int) : Int) := of_decide_eq_true (by first | (with_reducible assumption) | assumption)
                           obtain ⟨i0104, hi0104, _, hsz104, _⟩ := info_parts info3
                           have hroom104 : t284.length ≤ co71 := (Kd.R_reads' HO_16.out).2.1
                           have hC104 : Kd.C (Kd.int .i64) _ Ao71 t284.length t284 := (Kd.R_reads' HO_16.out).2.2
                           have hcut104 := cut_to (P := Tryz.prog) 37 3 .i64 Tryz.underlying37 hi0104 Ao71 t284.length co71 (ji82) (of_decide_eq_true (by first | (with_reducible assumption) | assumption)) q104 hroom104
                           have hr104 := Kd.C_take (m := ((ji82) : Int).toNat) hC104 (by omega)
                           have hy104 : y296.length = ((ji82) : Int).toNat := (by rw [Ny296.out, List.length_take]; omega)
                           rw [← Ny296.out] at hr104
                           rw [← hy104] at hcut104
                           have HR299 := Aside0.mk hr104
                           have HC299 := Aside0.mk (show y296.length ≤ co71 from by omega)
                           clear hr104 hC104 hroom104 hi0104 hsz104
                           have KY104 := Aside0.mk hy104
                           clear hy104
                           have KL104 := Aside0.mk (show ((ji82) : Int).toNat ≤ t284.length from by omega)
                           replace q104 := eq_true q104
                           have q105 : ((ji86) : Int) ≤ ((t284.length : Int) : Int) := of_decide_eq_true (by first | (with_reducible assumption) | assumption)
                           obtain ⟨i0105, hi0105, _, hsz105, _⟩ := info_parts info3
                           have hroom105 : t284.length ≤ co71 := (Kd.R_reads' HO_16.out).2.1
                           have hC105 : Kd.C (Kd.int .i64) _ Ao71 t284.length t284 := (Kd.R_reads' HO_16.out).2.2
                           have q0105 : (0 : Int) ≤ ((ji86) : Int) := of_decide_eq_true (by first | (with_reducible assumption) | assumption)
                           have hcut105 := cut_from (P := Tryz.prog) 37 3 .i64 Tryz.underlying37 hi0105 1 hsz105 Ao71 t284.length co71 (ji86) q0105 q105
                           have hr105 := Kd.C_drop (m := ((ji86) : Int).toNat) (c := co71) hC105 (by omega) hroom105
                           obtain ⟨A105, hA105⟩ : ∃ A1, A1 = (if co71 = ((ji86) : Int).toNat then Ao71 else (Ao71 : Option Addr).map (·.add (((ji86) : Int).toNat * 1))) := ⟨_, rfl⟩
                           obtain ⟨c105, hc105⟩ : ∃ c1, c1 = co71 - ((ji86) : Int).toNat := ⟨_, rfl⟩
                           have hy105 : y303.length = t284.length - ((ji86) : Int).toNat := (by rw [Ny303.out, List.length_drop] <;> omega)
                           rw [show (t284).drop ((ji86) : Int).toNat = y303 from Ny303.out.symm] at hr105
                           replace hr105 : Kd.C (Kd.int .i64) _ A105 y303.length y303 := (by rw [hA105]; exact hr105)
                           rw [← hy105, ← hA105, ← hc105] at hcut105
                           have HR306 := Aside0.mk hr105
                           have HC306 := Aside0.mk (show y303.length ≤ c105 from by rw [hy105, hc105]; exact Nat.sub_le_sub_right hroom105 _)
                           clear hr105 hC105 hroom105 hi0105 hsz105 hc105
                           have KY105 := Aside0.mk hy105
                           have KA105 := Aside0.mk hA105
                           clear hy105 hA105
                           have KL105 := Aside0.mk (show ((ji86) : Int).toNat ≤ t284.length from by omega)
                           replace q105 := eq_true q105
                           refine start_ (n := 11) (S := fun w' => True) (ds := []) #[false, false, false, false, false, false, false, false, false, false, false] (by kernel_rfl) rfl rfl trivial (fun hHeld => ?_); refine with_tabW besomlaw09_ProtestModel.tab26 besomlaw09_ProtestModel.bits26 (fun HT_ HW_ => ?_)
                           generalize wc.drew = w103 at HO_16 HB HR299 HR306 hHeld ⊢
                           refine pure_ (i := 1) (N := some 154) (v := ?_) (a' := ?_) #[false, true, false, false, false, false, false, false, false, false, false] rfl rfl (any_of HT_.out (by kernel_rfl)) (fun _ _ _ h => h) (Or.inl ⟨by rfl, ?_⟩) ?_ ?_
                           rotate_left
                           ·intro w'
                            go_simp
                            with_reducible rfl
                           rotate_left
                           ·simp only [Act.put, List.setIfInBounds_toArray, List.set_cons_zero, List.set_cons_succ, i64_w, i32_w]
                            rfl
                           refine pure_ (i := 2) (N := some 155) (v := ?_) (a' := ?_) #[false, true, true, false, false, false, false, false, false, false, false] rfl rfl (any_of HT_.out (by kernel_rfl)) (fun _ _ _ h => h) (Or.inl ⟨by rfl, ?_⟩) ?_ ?_
                           rotate_left
                           ·intro w'
                            go_simp
                            with_reducible rfl
                           rotate_left
                           ·simp only [Act.put, List.setIfInBounds_toArray, List.set_cons_zero, List.set_cons_succ, i64_w, i32_w]
                            rfl
                           refine pure_ (i := 3) (N := some 156) (v := ?_) (a' := ?_) #[false, true, true, true, false, false, false, false, false, false, false] rfl rfl (any_of HT_.out (by kernel_rfl)) (fun _ _ _ h => h) (Or.inl ⟨by rfl, ?_⟩) ?_ ?_
                           rotate_left
                           ·intro w'
                            go_simp
                            with_reducible rfl
                           rotate_left
                           ·simp only [Act.put, List.setIfInBounds_toArray, List.set_cons_zero, List.set_cons_succ, i64_w, i32_w]
                            rfl
                           refine pure_ (i := 5) (N := some 158) (v := ?_) (a' := ?_) #[false, true, true, true, false, true, false, false, false, false, false] rfl rfl (any_of HT_.out (by kernel_rfl)) (fun _ _ _ h => h) (Or.inl ⟨by rfl, ?_⟩) ?_ ?_
                           rotate_left
                           ·intro w'
                            go_simp
                            with_reducible rfl
                           rotate_left
                           ·simp only [Act.put, List.setIfInBounds_toArray, List.set_cons_zero, List.set_cons_succ, i64_w, i32_w]
                            rfl
                           refine pure_ (i := 6) (N := some 159) (v := ?_) (a' := ?_) #[false, true, true, true, false, true, true, false, false, false, false] rfl rfl (any_of HT_.out (by kernel_rfl)) (fun _ _ _ h => h) (Or.inl ⟨by rfl, ?_⟩) ?_ ?_
                           rotate_left
                           ·intro w'
                            go_simp
                            with_reducible rfl
                           rotate_left
                           ·simp only [Act.put, List.setIfInBounds_toArray, List.set_cons_zero, List.set_cons_succ, i64_w, i32_w]
                            rfl
                           refine pure_ (i := 7) (N := some 160) (v := ?_) (a' := ?_) #[false, true, true, true, false, true, true, true, false, false, false] rfl rfl (any_of HT_.out (by kernel_rfl)) (fun _ _ _ h => h) (Or.inl ⟨by rfl, ?_⟩) ?_ ?_
                           rotate_left
                           ·intro w'
                            go_simp
                            with_reducible rfl
                           rotate_left
                           ·simp only [Act.put, List.setIfInBounds_toArray, List.set_cons_zero, List.set_cons_succ, i64_w, i32_w]
                            rfl
                           refine pure_ (i := 8) (N := some 161) (v := ?_) (a' := ?_) #[false, true, true, true, false, true, true, true, true, false, false] rfl rfl (any_of HT_.out (by kernel_rfl)) (fun _ _ _ h => h) (Or.inl ⟨by rfl, ?_⟩) ?_ ?_
                           rotate_left
                           ·intro w'
                            go_simp
                            with_reducible rfl
                           rotate_left
                           ·simp only [Act.put, List.setIfInBounds_toArray, List.set_cons_zero, List.set_cons_succ, i64_w, i32_w]
                            rfl
                           refine one_ (i := 0) (N := some 153) #[true, true, true, true, false, true, true, true, true, false, false] rfl rfl (one_of HT_.out (by kernel_rfl)) (by decide) (fun K hK => ?_)
                           refine Kd.R_lit_step (Kd.int .i64) _ 3 ?hg (N := 153) ?hd (xs := ([] : List Int)) (inner := []) (ok := fun _ => True) (okp := fun _ => True) ?hr ?hp (fun _ hk => hk) trivial (Below.refl _ _) (Nat.le_refl _) (by simp) ?_; (case hd => rfl); (case hg => rfl); (case hr => first | (go_simp; done) | (go_simp; rfl)); (case hp => exact (Reps.none _ _))
                           intro v294 w106 ho107 hb hg_ hnew_
                           clear hg_ hnew_
                           (first | rw [← Ny293.out] at ho107 | (simp only [Int.reduceToNat] at ho107; rw [← Ny293.out] at ho107))
                           have n0_ := Aside0.mk (Kd.R_elder' (by (with_reducible repeat (first | apply Kd.R_alloc | apply Kd.R_drewN | apply Kd.R_drew)); exact HO_16.out) (Kd.R_base ho107) hb)
                           have n1_ := Aside0.mk (Kd.R_lower (Kd.R_new' ho107 (Kd.R_lt (by (with_reducible repeat (first | apply Kd.R_alloc | apply Kd.R_drewN | apply Kd.R_drew)); exact HO_16.out))) (below_size (by repeat (first | (with_reducible first | exact HB.out | apply below_alloc | apply pw_below_drewN | apply below_drew1) | exact HB.out))))
                           have n2_ := Aside0.mk (Kd.C_below (by repeat (first | (with_reducible exact HR299.out) | (with_reducible refine Kd.C_alloc ?_ _) | (with_reducible refine Kd.C_drewN ?_ _) | (with_reducible refine Kd.C_drew ?_) | exact HR299.out)) hb)
                           have n3_ := Aside0.mk (Kd.C_below (by repeat (first | (with_reducible exact HR306.out) | (with_reducible refine Kd.C_alloc ?_ _) | (with_reducible refine Kd.C_drewN ?_ _) | (with_reducible refine Kd.C_drew ?_) | exact HR306.out)) hb)
                           have n4_ := Aside0.mk (below_step (by repeat (first | (with_reducible first | exact HB.out | apply below_alloc | apply pw_below_drewN | apply below_drew1) | exact HB.out)) hb)
                           clear HO_16
                           clear HR299
                           clear HR306
                           clear HB
                           have HO_16 := n0_
                           have HO295 := n1_
                           have HR299 := n2_
                           have HR306 := n3_
                           have HB := n4_
                           clear n0_ n1_ n2_ n3_ n4_
                           clear hb ho107
                           refine hK.out _ _ trivial (fun hHeld => ?_)
                           clear hK K
                           refine norm_ (a' := ?_) ?_ ?_
                           rotate_left
                           ·show Act.put _ (some 153) _ = _
                            simp only [Act.put, List.setIfInBounds_toArray, List.set_cons_zero, List.set_cons_succ, i64_w, i32_w]
                            rfl
                           refine one_ (i := 4) (N := some 157) #[true, true, true, true, true, true, true, true, true, false, false] rfl rfl (one_of HT_.out (by kernel_rfl)) (by decide) (fun K hK => ?_)
                           refine Kd.R_append_rows_step (Kd.int .i64) (w0 := w) w.heap.size (by rfl) (.tmp 153) (.tmp 156) 37 3 (.int .i64 0) 8 rfl Tryz.underlying37 info3 rfl (by decide) (by omega) v294 y293 y296 _ _ _ (fun k_ => some k_ ≠ (.slice Ao71 t284.length co71 : Value).ownBlock) (fun _ => False) rfl rfl ?aO ?aR (fun _ _ h => h) (fun _ h => h.elim) ?aF ?aB ?aS ?aL ?_
                           (case aR => repeat (first | exact (by repeat (first | (with_reducible exact HR299.out) | (with_reducible refine Kd.C_alloc ?_ _) | (with_reducible refine Kd.C_drewN ?_ _) | (with_reducible refine Kd.C_drew ?_) | exact HR299.out)) | (with_reducible refine Kd.C_alloc ?_ _) | (with_reducible refine Kd.C_drewN ?_ _) | (with_reducible refine Kd.C_drew ?_)))
                           (case aB => exact (by repeat (first | (with_reducible first | exact HB.out | apply below_alloc | apply pw_below_drewN | apply below_drew1) | exact HB.out)))
                           (case aF => exact (fun k_ hk => Kd.fresh' (Kd.R_lt (by (with_reducible repeat (first | apply Kd.R_alloc | apply Kd.R_drewN | apply Kd.R_drew)); exact HO_16.out)) k_ hk))
                           (case aO => exact (by (with_reducible repeat (first | apply Kd.R_alloc | apply Kd.R_drewN | apply Kd.R_drew)); exact Kd.R_mono HO295.out (fun _ hk => hk.2)))
                           (case aS => exact (below_size (by repeat (first | (with_reducible first | exact HB.out | apply below_alloc | apply pw_below_drewN | apply below_drew1) | exact HB.out))))
                           (case aL => have := LMc85.out; omega)
                           intro v301 w108 ho hb hg hat
                           rw [← Ny300.out] at ho
                           have n0_ := Aside0.mk (Kd.R_after (ok := (fun _ => True)) (by (with_reducible repeat (first | apply Kd.R_alloc | apply Kd.R_drewN | apply Kd.R_drew)); exact HO_16.out) hg hat)
                           have n1_ := Aside0.mk (hb)
                           have n2_ := Aside0.mk ((show Kd.C (Kd.int .i64) w108 Ao71 y296.length y296 from by rw [Ny296.out]; exact Kd.C_take (m := ((ji82) : Int).toNat) ((Kd.R_reads' (Kd.R_after (ok := (fun _ => True)) (by (with_reducible repeat (first | apply Kd.R_alloc | apply Kd.R_drewN | apply Kd.R_drew)); exact HO_16.out) hg hat)).2.2) KL104.out))
                           have n3_ := Aside0.mk ((show Kd.C (Kd.int .i64) w108 A105 y303.length y303 from by rw [Ny303.out, KA105.out]; exact Kd.C_drop (m := ((ji86) : Int).toNat) (c := co71) ((Kd.R_reads' (Kd.R_after (ok := (fun _ => True)) (by (with_reducible repeat (first | apply Kd.R_alloc | apply Kd.R_drewN | apply Kd.R_drew)); exact HO_16.out) hg hat)).2.2) KL105.out ((Kd.R_reads' (Kd.R_after (ok := (fun _ => True)) (by (with_reducible repeat (first | apply Kd.R_alloc | apply Kd.R_drewN | apply Kd.R_drew)); exact HO_16.out) hg hat)).2.1)))
                           have n4_ := Aside0.mk (ho)
                           clear HO_16
                           clear HB
                           clear HR299
                           clear HR306
                           clear HO295
                           have HO_16 := n0_
                           have HB := n1_
                           have HR299 := n2_
                           have HR306 := n3_
                           have HO302 := n4_
                           clear n0_ n1_ n2_ n3_ n4_
                           clear ho hb hg hat
                           refine hK.out _ _ trivial (fun hHeld => ?_)
                           clear hK K
                           refine norm_ (a' := ?_) ?_ ?_
                           rotate_left
                           ·show Act.put _ (some 157) _ = _
                            simp only [Act.put, List.setIfInBounds_toArray, List.set_cons_zero, List.set_cons_succ, i64_w, i32_w]
                            rfl
                           refine one_ (i := 9) (N := some 162) #[true, true, true, true, true, true, true, true, true, true, false] rfl rfl (one_of HT_.out (by kernel_rfl)) (by decide) (fun K hK => ?_)
                           refine Kd.R_append_rows_step (Kd.int .i64) (w0 := w) w.heap.size (by rfl) (.tmp 157) (.tmp 161) 37 3 (.int .i64 0) 8 rfl Tryz.underlying37 info3 rfl (by decide) (by omega) v301 y300 y303 _ _ _ (fun k_ => some k_ ≠ (.slice Ao71 t284.length co71 : Value).ownBlock) (fun _ => False) rfl rfl ?aO ?aR (fun _ _ h => h) (fun _ h => h.elim) ?aF ?aB ?aS ?aL ?_
                           (case aR => repeat (first | exact (by repeat (first | (with_reducible exact HR306.out) | (with_reducible refine Kd.C_alloc ?_ _) | (with_reducible refine Kd.C_drewN ?_ _) | (with_reducible refine Kd.C_drew ?_) | exact HR306.out)) | (with_reducible refine Kd.C_alloc ?_ _) | (with_reducible refine Kd.C_drewN ?_ _) | (with_reducible refine Kd.C_drew ?_)))
                           (case aB => exact (by repeat (first | (with_reducible first | exact HB.out | apply below_alloc | apply pw_below_drewN | apply below_drew1) | exact HB.out)))
                           (case aF => exact (fun k_ hk => Kd.fresh' (Kd.R_lt (by (with_reducible repeat (first | apply Kd.R_alloc | apply Kd.R_drewN | apply Kd.R_drew)); exact HO_16.out)) k_ hk))
                           (case aO => exact (by (with_reducible repeat (first | apply Kd.R_alloc | apply Kd.R_drewN | apply Kd.R_drew)); exact HO302.out))
                           (case aS => exact (below_size (by repeat (first | (with_reducible first | exact HB.out | apply below_alloc | apply pw_below_drewN | apply below_drew1) | exact HB.out))))
                           (case aL => have := LMc89.out; omega)
                           intro v308 w109 ho hb hg hat
                           rw [← Ny307.out] at ho
                           have n0_ := Aside0.mk (Kd.R_after (ok := (fun _ => True)) (by (with_reducible repeat (first | apply Kd.R_alloc | apply Kd.R_drewN | apply Kd.R_drew)); exact HO_16.out) hg hat)
                           have n1_ := Aside0.mk (hb)
                           have n2_ := Aside0.mk ((show Kd.C (Kd.int .i64) w109 Ao71 y296.length y296 from by rw [Ny296.out]; exact Kd.C_take (m := ((ji82) : Int).toNat) ((Kd.R_reads' (Kd.R_after (ok := (fun _ => True)) (by (with_reducible repeat (first | apply Kd.R_alloc | apply Kd.R_drewN | apply Kd.R_drew)); exact HO_16.out) hg hat)).2.2) KL104.out))
                           have n3_ := Aside0.mk ((show Kd.C (Kd.int .i64) w109 A105 y303.length y303 from by rw [Ny303.out, KA105.out]; exact Kd.C_drop (m := ((ji86) : Int).toNat) (c := co71) ((Kd.R_reads' (Kd.R_after (ok := (fun _ => True)) (by (with_reducible repeat (first | apply Kd.R_alloc | apply Kd.R_drewN | apply Kd.R_drew)); exact HO_16.out) hg hat)).2.2) KL105.out ((Kd.R_reads' (Kd.R_after (ok := (fun _ => True)) (by (with_reducible repeat (first | apply Kd.R_alloc | apply Kd.R_drewN | apply Kd.R_drew)); exact HO_16.out) hg hat)).2.1)))
                           have n4_ := Aside0.mk (ho)
                           clear HO_16
                           clear HB
                           clear HR299
                           clear HR306
                           clear HO302
                           have HO_16 := n0_
                           have HB := n1_
                           have HR299 := n2_
                           have HR306 := n3_
                           have HO309 := n4_
                           clear n0_ n1_ n2_ n3_ n4_
                           clear ho hb hg hat
                           refine hK.out _ _ trivial (fun hHeld => ?_)
                           clear hK K
                           refine norm_ (a' := ?_) ?_ ?_
                           rotate_left
                           ·show Act.put _ (some 162) _ = _
                            simp only [Act.put, List.setIfInBounds_toArray, List.set_cons_zero, List.set_cons_succ, i64_w, i32_w]
                            rfl
                           refine pure_ (i := 10) (N := some 22) (v := ?_) (a' := ?_) #[true, true, true, true, true, true, true, true, true, true, true] rfl rfl (any_of HT_.out (by kernel_rfl)) (fun _ _ _ h => h) (Or.inl ⟨by rfl, ?_⟩) ?_ ?_
                           rotate_left
                           ·intro w'
                            go_simp
                            with_reducible rfl
                           rotate_left
                           ·simp only [Act.put, List.setIfInBounds_toArray, List.set_cons_zero, List.set_cons_succ, i64_w, i32_w]
                            rfl
                           refine done_ (done_of HT_.out (by kernel_rfl)) ?_
                           obtain ⟨Ao110, co110, eo110⟩ := Kd.R_slice HO309.out
                           subst eo110
                           try go_wp2_with (first | ((with_reducible refine gate_callee (f := 29) rfl ?_); refine goesL_ (some 169) rfl rfl Tryz.func29 (by kernel_rfl) rfl #[.slice A0 l0.length c0, .int .i64 a1, .slice A2 l2.length c2, .slice Ao110 y307.length co110, .string (rdOf ByteArray.empty t249 (ji63))] rfl (by (try simp only [List.map_toArray, List.map_cons, List.map_nil]); first | done | (simp only [hji63]; rfl) | rfl | (simp only [List.length_drop, List.length_take]; rfl)) ?_; (with_reducible refine (protest_Proves.calls _ _ l0 a1 _ _ l2 _ _ y307 (rdOf ByteArray.empty t249 (ji63)) false t311 t312 _ ?side1 ?side2 ?side3 ?side4 ?side5 ?side6 A90.out).mono ?_); (case side1 => repeat (first | exact (Kd.C_below HR0.out HB.out) | (with_reducible refine Kd.C_alloc ?_ _) | (with_reducible refine Kd.C_drewN ?_ _) | (with_reducible refine Kd.C_drew ?_))); (case side2 => exact HC0.out); (case side3 => repeat (first | exact (Kd.C_below HR2.out HB.out) | (with_reducible refine Kd.C_alloc ?_ _) | (with_reducible refine Kd.C_drewN ?_ _) | (with_reducible refine Kd.C_drew ?_))); (case side4 => exact HC2.out); (case side5 => repeat (first | exact (Kd.R_reads' HO309.out).2.2 | (with_reducible refine Kd.C_alloc ?_ _) | (with_reducible refine Kd.C_drewN ?_ _) | (with_reducible refine Kd.C_drew ?_))); (case side6 => exact (Kd.R_reads' HO309.out).2.1); rintro e w111 ⟨rfl, hb⟩; refine ⟨_, rfl, ?_⟩; have n0_ := Aside0.mk (Kd.R_below (by (with_reducible repeat (first | apply Kd.R_alloc | apply Kd.R_drewN | apply Kd.R_drew)); exact HO_16.out) hb); have n1_ := Aside0.mk (Kd.R_below (by (with_reducible repeat (first | apply Kd.R_alloc | apply Kd.R_drewN | apply Kd.R_drew)); exact HO309.out) hb); have n2_ := Aside0.mk (Kd.C_below (by repeat (first | (with_reducible exact HR299.out) | (with_reducible refine Kd.C_alloc ?_ _) | (with_reducible refine Kd.C_drewN ?_ _) | (with_reducible refine Kd.C_drew ?_) | exact HR299.out)) hb); have n3_ := Aside0.mk (Kd.C_below (by repeat (first | (with_reducible exact HR306.out) | (with_reducible refine Kd.C_alloc ?_ _) | (with_reducible refine Kd.C_drewN ?_ _) | (with_reducible refine Kd.C_drew ?_) | exact HR306.out)) hb); have n4_ := Aside0.mk (below_step (by repeat (first | (with_reducible first | exact HB.out | apply below_alloc | apply pw_below_drewN | apply below_drew1) | exact HB.out)) hb); clear HO_16; clear HO309; clear HR299; clear HR306; clear HB; have HO_16 := n0_; have HO309 := n1_; have HR299 := n2_; have HR306 := n3_; have HB := n4_; clear n0_ n1_ n2_ n3_ n4_; (try clear hb); (try clear hb2); (try clear hk); (try clear hi)) | (go_at_call 11; (with_reducible refine (besomlaw09_awake.calls  t313 _ A102.out).mono ?_); rintro e w112 ⟨rfl, hb⟩; have n0_ := Aside0.mk (Kd.R_below (by (with_reducible repeat (first | apply Kd.R_alloc | apply Kd.R_drewN | apply Kd.R_drew)); exact HO_16.out) hb); have n1_ := Aside0.mk (Kd.R_below (by (with_reducible repeat (first | apply Kd.R_alloc | apply Kd.R_drewN | apply Kd.R_drew)); exact HO309.out) hb); have n2_ := Aside0.mk (Kd.C_below (by repeat (first | (with_reducible exact HR299.out) | (with_reducible refine Kd.C_alloc ?_ _) | (with_reducible refine Kd.C_drewN ?_ _) | (with_reducible refine Kd.C_drew ?_) | exact HR299.out)) hb); have n3_ := Aside0.mk (Kd.C_below (by repeat (first | (with_reducible exact HR306.out) | (with_reducible refine Kd.C_alloc ?_ _) | (with_reducible refine Kd.C_drewN ?_ _) | (with_reducible refine Kd.C_drew ?_) | exact HR306.out)) hb); have n4_ := Aside0.mk (below_step (by repeat (first | (with_reducible first | exact HB.out | apply below_alloc | apply pw_below_drewN | apply below_drew1) | exact HB.out)) hb); clear HO_16; clear HO309; clear HR299; clear HR306; clear HB; have HO_16 := n0_; have HO309 := n1_; have HR299 := n2_; have HR306 := n3_; have HB := n4_; clear n0_ n1_ n2_ n3_ n4_; (try clear hb); (try clear hb2); (try clear hk); (try clear hi)))
                           go_ret
                           exact ⟨by first | rfl | (simp [errW_none, errW_some] <;> rfl) | (simp only [← hji63, ← hji82, ← hji86]; first | rfl | (simp [errW_none, errW_some] <;> rfl)) | (simp [*, errW_none, errW_some] <;> rfl), by repeat (first | (with_reducible first | exact HB.out | apply below_alloc | apply pw_below_drewN | apply below_drew1) | exact HB.out)⟩
                          ·rw [if_neg c101] at H
                           have c101b0 : (t312 == 0) = false := beq_eq_false_iff_ne.mpr c101
                           have c101b1 : (t312 != 0) = true := bne_iff_ne.mpr c101
                           obtain rfl := Option.some.inj H
                           try go_wp2
                           have n0_ := Aside0.mk (Kd.R_drew HO_16.out)
                           have n1_ := Aside0.mk (below_drew1 HB.out)
                           clear HO_16
                           clear HB
                           have HO_16 := n0_
                           have HB := n1_
                           clear n0_ n1_
                           have q114 : ((ji82) : Int) ≤ ((t284.length : Int) : Int) := of_decide_eq_true (by first | (with_reducible assumption) | assumption)
                           obtain ⟨i0114, hi0114, _, hsz114, _⟩ := info_parts info3
                           have hroom114 : t284.length ≤ co71 := (Kd.R_reads' HO_16.out).2.1
                           have hC114 : Kd.C (Kd.int .i64) _ Ao71 t284.length t284 := (Kd.R_reads' HO_16.out).2.2
                           have hcut114 := cut_to (P := Tryz.prog) 37 3 .i64 Tryz.underlying37 hi0114 Ao71 t284.length co71 (ji82) (of_decide_eq_true (by first | (with_reducible assumption) | assumption)) q114 hroom114
                           have hr114 := Kd.C_take (m := ((ji82) : Int).toNat) hC114 (by omega)
                           have hy114 : y296.length = ((ji82) : Int).toNat := (by rw [Ny296.out, List.length_take]; omega)
                           rw [← Ny296.out] at hr114
                           rw [← hy114] at hcut114
                           have HR299 := Aside0.mk hr114
                           have HC299 := Aside0.mk (show y296.length ≤ co71 from by omega)
                           clear hr114 hC114 hroom114 hi0114 hsz114
                           have KY114 := Aside0.mk hy114
                           clear hy114
                           have KL114 := Aside0.mk (show ((ji82) : Int).toNat ≤ t284.length from by omega)
                           replace q114 := eq_true q114
                           have q115 : ((ji86) : Int) ≤ ((t284.length : Int) : Int) := of_decide_eq_true (by first | (with_reducible assumption) | assumption)
                           obtain ⟨i0115, hi0115, _, hsz115, _⟩ := info_parts info3
                           have hroom115 : t284.length ≤ co71 := (Kd.R_reads' HO_16.out).2.1
                           have hC115 : Kd.C (Kd.int .i64) _ Ao71 t284.length t284 := (Kd.R_reads' HO_16.out).2.2
                           have q0115 : (0 : Int) ≤ ((ji86) : Int) := of_decide_eq_true (by first | (with_reducible assumption) | assumption)
                           have hcut115 := cut_from (P := Tryz.prog) 37 3 .i64 Tryz.underlying37 hi0115 1 hsz115 Ao71 t284.length co71 (ji86) q0115 q115
                           have hr115 := Kd.C_drop (m := ((ji86) : Int).toNat) (c := co71) hC115 (by omega) hroom115
                           obtain ⟨A115, hA115⟩ : ∃ A1, A1 = (if co71 = ((ji86) : Int).toNat then Ao71 else (Ao71 : Option Addr).map (·.add (((ji86) : Int).toNat * 1))) := ⟨_, rfl⟩
                           obtain ⟨c115, hc115⟩ : ∃ c1, c1 = co71 - ((ji86) : Int).toNat := ⟨_, rfl⟩
                           have hy115 : y303.length = t284.length - ((ji86) : Int).toNat := (by rw [Ny303.out, List.length_drop] <;> omega)
                           rw [show (t284).drop ((ji86) : Int).toNat = y303 from Ny303.out.symm] at hr115
                           replace hr115 : Kd.C (Kd.int .i64) _ A115 y303.length y303 := (by rw [hA115]; exact hr115)
                           rw [← hy115, ← hA115, ← hc115] at hcut115
                           have HR306 := Aside0.mk hr115
                           have HC306 := Aside0.mk (show y303.length ≤ c115 from by rw [hy115, hc115]; exact Nat.sub_le_sub_right hroom115 _)
                           clear hr115 hC115 hroom115 hi0115 hsz115 hc115
                           have KY115 := Aside0.mk hy115
                           have KA115 := Aside0.mk hA115
                           clear hy115 hA115
                           have KL115 := Aside0.mk (show ((ji86) : Int).toNat ≤ t284.length from by omega)
                           replace q115 := eq_true q115
                           refine start_ (n := 11) (S := fun w' => True) (ds := []) #[false, false, false, false, false, false, false, false, false, false, false] (by kernel_rfl) rfl rfl trivial (fun hHeld => ?_); refine with_tabW besomlaw09_ProtestModel.tab26 besomlaw09_ProtestModel.bits26 (fun HT_ HW_ => ?_)
                           generalize wc.drew = w113 at HO_16 HB HR299 HR306 hHeld ⊢
                           refine pure_ (i := 1) (N := some 154) (v := ?_) (a' := ?_) #[false, true, false, false, false, false, false, false, false, false, false] rfl rfl (any_of HT_.out (by kernel_rfl)) (fun _ _ _ h => h) (Or.inl ⟨by rfl, ?_⟩) ?_ ?_
                           rotate_left
                           ·intro w'
                            go_simp
                            with_reducible rfl
                           rotate_left
                           ·simp only [Act.put, List.setIfInBounds_toArray, List.set_cons_zero, List.set_cons_succ, i64_w, i32_w]
                            rfl
                           refine pure_ (i := 2) (N := some 155) (v := ?_) (a' := ?_) #[false, true, true, false, false, false, false, false, false, false, false] rfl rfl (any_of HT_.out (by kernel_rfl)) (fun _ _ _ h => h) (Or.inl ⟨by rfl, ?_⟩) ?_ ?_
                           rotate_left
                           ·intro w'
                            go_simp
                            with_reducible rfl
                           rotate_left
                           ·simp only [Act.put, List.setIfInBounds_toArray, List.set_cons_zero, List.set_cons_succ, i64_w, i32_w]
                            rfl
                           refine pure_ (i := 3) (N := some 156) (v := ?_) (a' := ?_) #[false, true, true, true, false, false, false, false, false, false, false] rfl rfl (any_of HT_.out (by kernel_rfl)) (fun _ _ _ h => h) (Or.inl ⟨by rfl, ?_⟩) ?_ ?_
                           rotate_left
                           ·intro w'
                            go_simp
                            with_reducible rfl
                           rotate_left
                           ·simp only [Act.put, List.setIfInBounds_toArray, List.set_cons_zero, List.set_cons_succ, i64_w, i32_w]
                            rfl
                           refine pure_ (i := 5) (N := some 158) (v := ?_) (a' := ?_) #[false, true, true, true, false, true, false, false, false, false, false] rfl rfl (any_of HT_.out (by kernel_rfl)) (fun _ _ _ h => h) (Or.inl ⟨by rfl, ?_⟩) ?_ ?_
                           rotate_left
                           ·intro w'
                            go_simp
                            with_reducible rfl
                           rotate_left
                           ·simp only [Act.put, List.setIfInBounds_toArray, List.set_cons_zero, List.set_cons_succ, i64_w, i32_w]
                            rfl
                           refine pure_ (i := 6) (N := some 159) (v := ?_) (a' := ?_) #[false, true, true, true, false, true, true, false, false, false, false] rfl rfl (any_of HT_.out (by kernel_rfl)) (fun _ _ _ h => h) (Or.inl ⟨by rfl, ?_⟩) ?_ ?_
                           rotate_left
                           ·intro w'
                            go_simp
                            with_reducible rfl
                           rotate_left
                           ·simp only [Act.put, List.setIfInBounds_toArray, List.set_cons_zero, List.set_cons_succ, i64_w, i32_w]
                            rfl
                           refine pure_ (i := 7) (N := some 160) (v := ?_) (a' := ?_) #[false, true, true, true, false, true, true, true, false, false, false] rfl rfl (any_of HT_.out (by kernel_rfl)) (fun _ _ _ h => h) (Or.inl ⟨by rfl, ?_⟩) ?_ ?_
                           rotate_left
                           ·intro w'
                            go_simp
                            with_reducible rfl
                           rotate_left
                           ·simp only [Act.put, List.setIfInBounds_toArray, List.set_cons_zero, List.set_cons_succ, i64_w, i32_w]
                            rfl
                           refine pure_ (i := 8) (N := some 161) (v := ?_) (a' := ?_) #[false, true, true, true, false, true, true, true, true, false, false] rfl rfl (any_of HT_.out (by kernel_rfl)) (fun _ _ _ h => h) (Or.inl ⟨by rfl, ?_⟩) ?_ ?_
                           rotate_left
                           ·intro w'
                            go_simp
                            with_reducible rfl
                           rotate_left
                           ·simp only [Act.put, List.setIfInBounds_toArray, List.set_cons_zero, List.set_cons_succ, i64_w, i32_w]
                            rfl
                           refine one_ (i := 0) (N := some 153) #[true, true, true, true, false, true, true, true, true, false, false] rfl rfl (one_of HT_.out (by kernel_rfl)) (by decide) (fun K hK => ?_)
                           refine Kd.R_lit_step (Kd.int .i64) _ 3 ?hg (N := 153) ?hd (xs := ([] : List Int)) (inner := []) (ok := fun _ => True) (okp := fun _ => True) ?hr ?hp (fun _ hk => hk) trivial (Below.refl _ _) (Nat.le_refl _) (by simp) ?_; (case hd => rfl); (case hg => rfl); (case hr => first | (go_simp; done) | (go_simp; rfl)); (case hp => exact (Reps.none _ _))
                           intro v294 w116 ho117 hb hg_ hnew_
                           clear hg_ hnew_
                           (first | rw [← Ny293.out] at ho117 | (simp only [Int.reduceToNat] at ho117; rw [← Ny293.out] at ho117))
                           have n0_ := Aside0.mk (Kd.R_elder' (by (with_reducible repeat (first | apply Kd.R_alloc | apply Kd.R_drewN | apply Kd.R_drew)); exact HO_16.out) (Kd.R_base ho117) hb)
                           have n1_ := Aside0.mk (Kd.R_lower (Kd.R_new' ho117 (Kd.R_lt (by (with_reducible repeat (first | apply Kd.R_alloc | apply Kd.R_drewN | apply Kd.R_drew)); exact HO_16.out))) (below_size (by repeat (first | (with_reducible first | exact HB.out | apply below_alloc | apply pw_below_drewN | apply below_drew1) | exact HB.out))))
                           have n2_ := Aside0.mk (Kd.C_below (by repeat (first | (with_reducible exact HR299.out) | (with_reducible refine Kd.C_alloc ?_ _) | (with_reducible refine Kd.C_drewN ?_ _) | (with_reducible refine Kd.C_drew ?_) | exact HR299.out)) hb)
                           have n3_ := Aside0.mk (Kd.C_below (by repeat (first | (with_reducible exact HR306.out) | (with_reducible refine Kd.C_alloc ?_ _) | (with_reducible refine Kd.C_drewN ?_ _) | (with_reducible refine Kd.C_drew ?_) | exact HR306.out)) hb)
                           have n4_ := Aside0.mk (below_step (by repeat (first | (with_reducible first | exact HB.out | apply below_alloc | apply pw_below_drewN | apply below_drew1) | exact HB.out)) hb)
                           clear HO_16
                           clear HR299
                           clear HR306
                           clear HB
                           have HO_16 := n0_
                           have HO295 := n1_
                           have HR299 := n2_
                           have HR306 := n3_
                           have HB := n4_
                           clear n0_ n1_ n2_ n3_ n4_
                           clear hb ho117
                           refine hK.out _ _ trivial (fun hHeld => ?_)
                           clear hK K
                           refine norm_ (a' := ?_) ?_ ?_
                           rotate_left
                           ·show Act.put _ (some 153) _ = _
                            simp only [Act.put, List.setIfInBounds_toArray, List.set_cons_zero, List.set_cons_succ, i64_w, i32_w]
                            rfl
                           refine one_ (i := 4) (N := some 157) #[true, true, true, true, true, true, true, true, true, false, false] rfl rfl (one_of HT_.out (by kernel_rfl)) (by decide) (fun K hK => ?_)
                           refine Kd.R_append_rows_step (Kd.int .i64) (w0 := w) w.heap.size (by rfl) (.tmp 153) (.tmp 156) 37 3 (.int .i64 0) 8 rfl Tryz.underlying37 info3 rfl (by decide) (by omega) v294 y293 y296 _ _ _ (fun k_ => some k_ ≠ (.slice Ao71 t284.length co71 : Value).ownBlock) (fun _ => False) rfl rfl ?aO ?aR (fun _ _ h => h) (fun _ h => h.elim) ?aF ?aB ?aS ?aL ?_
                           (case aR => repeat (first | exact (by repeat (first | (with_reducible exact HR299.out) | (with_reducible refine Kd.C_alloc ?_ _) | (with_reducible refine Kd.C_drewN ?_ _) | (with_reducible refine Kd.C_drew ?_) | exact HR299.out)) | (with_reducible refine Kd.C_alloc ?_ _) | (with_reducible refine Kd.C_drewN ?_ _) | (with_reducible refine Kd.C_drew ?_)))
                           (case aB => exact (by repeat (first | (with_reducible first | exact HB.out | apply below_alloc | apply pw_below_drewN | apply below_drew1) | exact HB.out)))
                           (case aF => exact (fun k_ hk => Kd.fresh' (Kd.R_lt (by (with_reducible repeat (first | apply Kd.R_alloc | apply Kd.R_drewN | apply Kd.R_drew)); exact HO_16.out)) k_ hk))
                           (case aO => exact (by (with_reducible repeat (first | apply Kd.R_alloc | apply Kd.R_drewN | apply Kd.R_drew)); exact Kd.R_mono HO295.out (fun _ hk => hk.2)))
                           (case aS => exact (below_size (by repeat (first | (with_reducible first | exact HB.out | apply below_alloc | apply pw_below_drewN | apply below_drew1) | exact HB.out))))
                           (case aL => have := LMc85.out; omega)
                           intro v301 w118 ho hb hg hat
                           rw [← Ny300.out] at ho
                           have n0_ := Aside0.mk (Kd.R_after (ok := (fun _ => True)) (by (with_reducible repeat (first | apply Kd.R_alloc | apply Kd.R_drewN | apply Kd.R_drew)); exact HO_16.out) hg hat)
                           have n1_ := Aside0.mk (hb)
                           have n2_ := Aside0.mk ((show Kd.C (Kd.int .i64) w118 Ao71 y296.length y296 from by rw [Ny296.out]; exact Kd.C_take (m := ((ji82) : Int).toNat) ((Kd.R_reads' (Kd.R_after (ok := (fun _ => True)) (by (with_reducible repeat (first | apply Kd.R_alloc | apply Kd.R_drewN | apply Kd.R_drew)); exact HO_16.out) hg hat)).2.2) KL114.out))
                           have n3_ := Aside0.mk ((show Kd.C (Kd.int .i64) w118 A115 y303.length y303 from by rw [Ny303.out, KA115.out]; exact Kd.C_drop (m := ((ji86) : Int).toNat) (c := co71) ((Kd.R_reads' (Kd.R_after (ok := (fun _ => True)) (by (with_reducible repeat (first | apply Kd.R_alloc | apply Kd.R_drewN | apply Kd.R_drew)); exact HO_16.out) hg hat)).2.2) KL115.out ((Kd.R_reads' (Kd.R_after (ok := (fun _ => True)) (by (with_reducible repeat (first | apply Kd.R_alloc | apply Kd.R_drewN | apply Kd.R_drew)); exact HO_16.out) hg hat)).2.1)))
                           have n4_ := Aside0.mk (ho)
                           clear HO_16
                           clear HB
                           clear HR299
                           clear HR306
                           clear HO295
                           have HO_16 := n0_
                           have HB := n1_
                           have HR299 := n2_
                           have HR306 := n3_
                           have HO302 := n4_
                           clear n0_ n1_ n2_ n3_ n4_
                           clear ho hb hg hat
                           refine hK.out _ _ trivial (fun hHeld => ?_)
                           clear hK K
                           refine norm_ (a' := ?_) ?_ ?_
                           rotate_left
                           ·show Act.put _ (some 157) _ = _
                            simp only [Act.put, List.setIfInBounds_toArray, List.set_cons_zero, List.set_cons_succ, i64_w, i32_w]
                            rfl
                           refine one_ (i := 9) (N := some 162) #[true, true, true, true, true, true, true, true, true, true, false] rfl rfl (one_of HT_.out (by kernel_rfl)) (by decide) (fun K hK => ?_)
                           refine Kd.R_append_rows_step (Kd.int .i64) (w0 := w) w.heap.size (by rfl) (.tmp 157) (.tmp 161) 37 3 (.int .i64 0) 8 rfl Tryz.underlying37 info3 rfl (by decide) (by omega) v301 y300 y303 _ _ _ (fun k_ => some k_ ≠ (.slice Ao71 t284.length co71 : Value).ownBlock) (fun _ => False) rfl rfl ?aO ?aR (fun _ _ h => h) (fun _ h => h.elim) ?aF ?aB ?aS ?aL ?_
                           (case aR => repeat (first | exact (by repeat (first | (with_reducible exact HR306.out) | (with_reducible refine Kd.C_alloc ?_ _) | (with_reducible refine Kd.C_drewN ?_ _) | (with_reducible refine Kd.C_drew ?_) | exact HR306.out)) | (with_reducible refine Kd.C_alloc ?_ _) | (with_reducible refine Kd.C_drewN ?_ _) | (with_reducible refine Kd.C_drew ?_)))
                           (case aB => exact (by repeat (first | (with_reducible first | exact HB.out | apply below_alloc | apply pw_below_drewN | apply below_drew1) | exact HB.out)))
                           (case aF => exact (fun k_ hk => Kd.fresh' (Kd.R_lt (by (with_reducible repeat (first | apply Kd.R_alloc | apply Kd.R_drewN | apply Kd.R_drew)); exact HO_16.out)) k_ hk))
                           (case aO => exact (by (with_reducible repeat (first | apply Kd.R_alloc | apply Kd.R_drewN | apply Kd.R_drew)); exact HO302.out))
                           (case aS => exact (below_size (by repeat (first | (with_reducible first | exact HB.out | apply below_alloc | apply pw_below_drewN | apply below_drew1) | exact HB.out))))
                           (case aL => have := LMc89.out; omega)
                           intro v308 w119 ho hb hg hat
                           rw [← Ny307.out] at ho
                           have n0_ := Aside0.mk (Kd.R_after (ok := (fun _ => True)) (by (with_reducible repeat (first | apply Kd.R_alloc | apply Kd.R_drewN | apply Kd.R_drew)); exact HO_16.out) hg hat)
                           have n1_ := Aside0.mk (hb)
                           have n2_ := Aside0.mk ((show Kd.C (Kd.int .i64) w119 Ao71 y296.length y296 from by rw [Ny296.out]; exact Kd.C_take (m := ((ji82) : Int).toNat) ((Kd.R_reads' (Kd.R_after (ok := (fun _ => True)) (by (with_reducible repeat (first | apply Kd.R_alloc | apply Kd.R_drewN | apply Kd.R_drew)); exact HO_16.out) hg hat)).2.2) KL114.out))
                           have n3_ := Aside0.mk ((show Kd.C (Kd.int .i64) w119 A115 y303.length y303 from by rw [Ny303.out, KA115.out]; exact Kd.C_drop (m := ((ji86) : Int).toNat) (c := co71) ((Kd.R_reads' (Kd.R_after (ok := (fun _ => True)) (by (with_reducible repeat (first | apply Kd.R_alloc | apply Kd.R_drewN | apply Kd.R_drew)); exact HO_16.out) hg hat)).2.2) KL115.out ((Kd.R_reads' (Kd.R_after (ok := (fun _ => True)) (by (with_reducible repeat (first | apply Kd.R_alloc | apply Kd.R_drewN | apply Kd.R_drew)); exact HO_16.out) hg hat)).2.1)))
                           have n4_ := Aside0.mk (ho)
                           clear HO_16
                           clear HB
                           clear HR299
                           clear HR306
                           clear HO302
                           have HO_16 := n0_
                           have HB := n1_
                           have HR299 := n2_
                           have HR306 := n3_
                           have HO309 := n4_
                           clear n0_ n1_ n2_ n3_ n4_
                           clear ho hb hg hat
                           refine hK.out _ _ trivial (fun hHeld => ?_)
                           clear hK K
                           refine norm_ (a' := ?_) ?_ ?_
                           rotate_left
                           ·show Act.put _ (some 162) _ = _
                            simp only [Act.put, List.setIfInBounds_toArray, List.set_cons_zero, List.set_cons_succ, i64_w, i32_w]
                            rfl
                           refine pure_ (i := 10) (N := some 22) (v := ?_) (a' := ?_) #[true, true, true, true, true, true, true, true, true, true, true] rfl rfl (any_of HT_.out (by kernel_rfl)) (fun _ _ _ h => h) (Or.inl ⟨by rfl, ?_⟩) ?_ ?_
                           rotate_left
                           ·intro w'
                            go_simp
                            with_reducible rfl
                           rotate_left
                           ·simp only [Act.put, List.setIfInBounds_toArray, List.set_cons_zero, List.set_cons_succ, i64_w, i32_w]
                            rfl
                           refine done_ (done_of HT_.out (by kernel_rfl)) ?_
                           obtain ⟨Ao120, co120, eo120⟩ := Kd.R_slice HO309.out
                           subst eo120
                           try go_wp2_with (first | ((with_reducible refine gate_callee (f := 29) rfl ?_); refine goesL_ (some 169) rfl rfl Tryz.func29 (by kernel_rfl) rfl #[.slice A0 l0.length c0, .int .i64 a1, .slice A2 l2.length c2, .slice Ao120 y307.length co120, .string (rdOf ByteArray.empty t249 (ji63))] rfl (by (try simp only [List.map_toArray, List.map_cons, List.map_nil]); first | done | (simp only [hji63]; rfl) | rfl | (simp only [List.length_drop, List.length_take]; rfl)) ?_; (with_reducible refine (protest_Proves.calls _ _ l0 a1 _ _ l2 _ _ y307 (rdOf ByteArray.empty t249 (ji63)) false t311 t312 _ ?side1 ?side2 ?side3 ?side4 ?side5 ?side6 A90.out).mono ?_); (case side1 => repeat (first | exact (Kd.C_below HR0.out HB.out) | (with_reducible refine Kd.C_alloc ?_ _) | (with_reducible refine Kd.C_drewN ?_ _) | (with_reducible refine Kd.C_drew ?_))); (case side2 => exact HC0.out); (case side3 => repeat (first | exact (Kd.C_below HR2.out HB.out) | (with_reducible refine Kd.C_alloc ?_ _) | (with_reducible refine Kd.C_drewN ?_ _) | (with_reducible refine Kd.C_drew ?_))); (case side4 => exact HC2.out); (case side5 => repeat (first | exact (Kd.R_reads' HO309.out).2.2 | (with_reducible refine Kd.C_alloc ?_ _) | (with_reducible refine Kd.C_drewN ?_ _) | (with_reducible refine Kd.C_drew ?_))); (case side6 => exact (Kd.R_reads' HO309.out).2.1); rintro e w121 ⟨rfl, hb⟩; refine ⟨_, rfl, ?_⟩; have n0_ := Aside0.mk (Kd.R_below (by (with_reducible repeat (first | apply Kd.R_alloc | apply Kd.R_drewN | apply Kd.R_drew)); exact HO_16.out) hb); have n1_ := Aside0.mk (Kd.R_below (by (with_reducible repeat (first | apply Kd.R_alloc | apply Kd.R_drewN | apply Kd.R_drew)); exact HO309.out) hb); have n2_ := Aside0.mk (Kd.C_below (by repeat (first | (with_reducible exact HR299.out) | (with_reducible refine Kd.C_alloc ?_ _) | (with_reducible refine Kd.C_drewN ?_ _) | (with_reducible refine Kd.C_drew ?_) | exact HR299.out)) hb); have n3_ := Aside0.mk (Kd.C_below (by repeat (first | (with_reducible exact HR306.out) | (with_reducible refine Kd.C_alloc ?_ _) | (with_reducible refine Kd.C_drewN ?_ _) | (with_reducible refine Kd.C_drew ?_) | exact HR306.out)) hb); have n4_ := Aside0.mk (below_step (by repeat (first | (with_reducible first | exact HB.out | apply below_alloc | apply pw_below_drewN | apply below_drew1) | exact HB.out)) hb); clear HO_16; clear HO309; clear HR299; clear HR306; clear HB; have HO_16 := n0_; have HO309 := n1_; have HR299 := n2_; have HR306 := n3_; have HB := n4_; clear n0_ n1_ n2_ n3_ n4_; (try clear hb); (try clear hb2); (try clear hk); (try clear hi)))
                           go_ret
                           exact ⟨by first | rfl | (simp [errW_none, errW_some] <;> rfl) | (simp only [← hji63, ← hji82, ← hji86]; first | rfl | (simp [errW_none, errW_some] <;> rfl)) | (simp [*, errW_none, errW_some] <;> rfl), by repeat (first | (with_reducible first | exact HB.out | apply below_alloc | apply pw_below_drewN | apply below_drew1) | exact HB.out)⟩
                        ·rw [if_neg c89] at H
                         exact absurd H (by simp)
                       ·rw [if_neg c88] at H
                        exact absurd H (by simp)
                      ·rw [if_neg c87] at H
                       exact absurd H (by simp)
                     ·rw [if_neg c85] at H
                      exact absurd H (by simp)
                    ·rw [if_neg c84] at H
                     exact absurd H (by simp)
                   ·rw [if_neg c83] at H
                    exact absurd H (by simp)
              ·rw [if_neg c65] at H
               exact absurd H (by simp)
             ·rw [if_neg c64] at H
              exact absurd H (by simp)
  ·rw [if_neg c11] at H
   have c11b0 : (t250 == 0) = false := beq_eq_false_iff_ne.mpr c11
   have c11b1 : (t250 != 0) = true := bne_iff_ne.mpr c11
   by_cases c122 : (t249.length : Int) = 0
   ·rw [if_pos c122] at H
    have c122b0 : ((t249.length : Int) == 0) = true := beq_iff_eq.mpr c122
    have c122b1 : ((t249.length : Int) != 0) = false := bne_eq_false_iff_eq.mpr c122
    clear c122
    replace H := Option.bind_eq_some_iff.mp H
    obtain ⟨t253, A1230, H⟩ := H
    replace H : (some t253) = some r := H
    have A123 := Aside0.mk A1230
    clear A1230
    obtain rfl := Option.some.inj H
    go_enter Tryz.func5, Tryz.ntmps5
    go_wp2_with (first | ((with_reducible refine gate_callee (f := 10) rfl ?_); refine goesL_ (some 25) rfl rfl Tryz.func10 (by kernel_rfl) rfl #[.slice A0 l0.length c0, .slice A2 l2.length c2] rfl (by (try simp only [List.map_toArray, List.map_cons, List.map_nil]); first | done | rfl | (simp only [List.length_drop, List.length_take]; rfl)) ?_; (with_reducible refine (besomlaw09_great.calls k _ _ l0 _ _ l2 false _ ?side1 ?side2 ?side3 ?side4 A6.out).mono ?_); (case side1 => repeat (first | exact HR0.out | (with_reducible refine Kd.C_alloc ?_ _) | (with_reducible refine Kd.C_drewN ?_ _) | (with_reducible refine Kd.C_drew ?_))); (case side2 => exact HC0.out); (case side3 => repeat (first | exact HR2.out | (with_reducible refine Kd.C_alloc ?_ _) | (with_reducible refine Kd.C_drewN ?_ _) | (with_reducible refine Kd.C_drew ?_))); (case side4 => exact HC2.out); rintro e w' ⟨rfl, ⟨nd, rfl⟩⟩; refine ⟨_, rfl, ?_⟩) | ((with_reducible refine gate_callee (f := 18) rfl ?_); refine goesL_ (some 31) rfl rfl Tryz.func18 (by kernel_rfl) rfl #[.slice A0 l0.length c0, .int .i64 a1, .slice A2 l2.length c2] rfl (by (try simp only [List.map_toArray, List.map_cons, List.map_nil]); first | done | rfl | (simp only [List.length_drop, List.length_take]; rfl)) ?_; (with_reducible refine (protest_Holds.calls _ _ l0 a1 _ _ l2 t249 t250 _ ?side1 ?side2 ?side3 ?side4 A10.out).mono ?_); (case side1 => repeat (first | exact HR0.out | (with_reducible refine Kd.C_alloc ?_ _) | (with_reducible refine Kd.C_drewN ?_ _) | (with_reducible refine Kd.C_drew ?_))); (case side2 => exact HC0.out); (case side3 => repeat (first | exact HR2.out | (with_reducible refine Kd.C_alloc ?_ _) | (with_reducible refine Kd.C_drewN ?_ _) | (with_reducible refine Kd.C_drew ?_))); (case side4 => exact HC2.out); rintro e w124 ⟨v251, rfl, ho0, hb⟩; refine ⟨_, rfl, ?_⟩; have n0_ := Aside0.mk (Kd.R_lower ho0 (below_size (by repeat (first | (with_reducible first | exact HB.out | apply below_alloc | apply pw_below_drewN | apply below_drew1) | exact HB.out)))); have n1_ := Aside0.mk (below_step (by repeat (first | (with_reducible first | exact HB.out | apply below_alloc | apply pw_below_drewN | apply below_drew1) | exact HB.out)) hb); clear HB; have HO252 := n0_; have HB := n1_; clear n0_ n1_; (try clear hb); (try clear hb2); (try clear hk); (try clear hi); (try clear ho0); obtain ⟨Ao125, co125, eo125⟩ := Kd.R_slice HO252.out; subst eo125) | (go_at_call 11; (with_reducible refine (besomlaw09_awake.calls  t253 _ A123.out).mono ?_); rintro e w126 ⟨rfl, hb⟩; have n0_ := Aside0.mk (Kd.R_below (by (with_reducible repeat (first | apply Kd.R_alloc | apply Kd.R_drewN | apply Kd.R_drew)); exact HO252.out) hb); have n1_ := Aside0.mk (below_step (by repeat (first | (with_reducible first | exact HB.out | apply below_alloc | apply pw_below_drewN | apply below_drew1) | exact HB.out)) hb); clear HO252; clear HB; have HO252 := n0_; have HB := n1_; clear n0_ n1_; (try clear hb); (try clear hb2); (try clear hk); (try clear hi)))
    go_ret
    exact ⟨by first | rfl | (simp [errW_none, errW_some] <;> rfl) | (simp [*, errW_none, errW_some] <;> rfl), by repeat (first | (with_reducible first | exact HB.out | apply below_alloc | apply pw_below_drewN | apply below_drew1) | exact HB.out)⟩
   ·rw [if_neg c122] at H
    have c122b0 : ((t249.length : Int) == 0) = false := beq_eq_false_iff_ne.mpr c122
    have c122b1 : ((t249.length : Int) != 0) = true := bne_iff_ne.mpr c122
    have c122b2 : ¬ (t249 = []) := fun h_ => c122 (by rw [h_]; rfl)
    obtain rfl := Option.some.inj H
    go_enter Tryz.func5, Tryz.ntmps5
    go_wp2_with (first | ((with_reducible refine gate_callee (f := 10) rfl ?_); refine goesL_ (some 25) rfl rfl Tryz.func10 (by kernel_rfl) rfl #[.slice A0 l0.length c0, .slice A2 l2.length c2] rfl (by (try simp only [List.map_toArray, List.map_cons, List.map_nil]); first | done | rfl | (simp only [List.length_drop, List.length_take]; rfl)) ?_; (with_reducible refine (besomlaw09_great.calls k _ _ l0 _ _ l2 false _ ?side1 ?side2 ?side3 ?side4 A6.out).mono ?_); (case side1 => repeat (first | exact HR0.out | (with_reducible refine Kd.C_alloc ?_ _) | (with_reducible refine Kd.C_drewN ?_ _) | (with_reducible refine Kd.C_drew ?_))); (case side2 => exact HC0.out); (case side3 => repeat (first | exact HR2.out | (with_reducible refine Kd.C_alloc ?_ _) | (with_reducible refine Kd.C_drewN ?_ _) | (with_reducible refine Kd.C_drew ?_))); (case side4 => exact HC2.out); rintro e w' ⟨rfl, ⟨nd, rfl⟩⟩; refine ⟨_, rfl, ?_⟩) | ((with_reducible refine gate_callee (f := 18) rfl ?_); refine goesL_ (some 31) rfl rfl Tryz.func18 (by kernel_rfl) rfl #[.slice A0 l0.length c0, .int .i64 a1, .slice A2 l2.length c2] rfl (by (try simp only [List.map_toArray, List.map_cons, List.map_nil]); first | done | rfl | (simp only [List.length_drop, List.length_take]; rfl)) ?_; (with_reducible refine (protest_Holds.calls _ _ l0 a1 _ _ l2 t249 t250 _ ?side1 ?side2 ?side3 ?side4 A10.out).mono ?_); (case side1 => repeat (first | exact HR0.out | (with_reducible refine Kd.C_alloc ?_ _) | (with_reducible refine Kd.C_drewN ?_ _) | (with_reducible refine Kd.C_drew ?_))); (case side2 => exact HC0.out); (case side3 => repeat (first | exact HR2.out | (with_reducible refine Kd.C_alloc ?_ _) | (with_reducible refine Kd.C_drewN ?_ _) | (with_reducible refine Kd.C_drew ?_))); (case side4 => exact HC2.out); rintro e w127 ⟨v251, rfl, ho0, hb⟩; refine ⟨_, rfl, ?_⟩; have n0_ := Aside0.mk (Kd.R_lower ho0 (below_size (by repeat (first | (with_reducible first | exact HB.out | apply below_alloc | apply pw_below_drewN | apply below_drew1) | exact HB.out)))); have n1_ := Aside0.mk (below_step (by repeat (first | (with_reducible first | exact HB.out | apply below_alloc | apply pw_below_drewN | apply below_drew1) | exact HB.out)) hb); clear HB; have HO252 := n0_; have HB := n1_; clear n0_ n1_; (try clear hb); (try clear hb2); (try clear hk); (try clear hi); (try clear ho0); obtain ⟨Ao128, co128, eo128⟩ := Kd.R_slice HO252.out; subst eo128))
    go_ret
    exact ⟨by first | rfl | (simp [errW_none, errW_some] <;> rfl) | (simp [*, errW_none, errW_some] <;> rfl), by repeat (first | (with_reducible first | exact HB.out | apply below_alloc | apply pw_below_drewN | apply below_drew1) | exact HB.out)⟩
end
end Go.Proofs.YtlhkeohcickiaaaGreatDoor.E

