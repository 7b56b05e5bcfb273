/- Part 35 of 36 of the proof of ProtestProofs: lemmas, without conditions. -/
import Derived.Test.YtlhkeohcickiaaaGreatDoorKP14
import Derived.Test.YtlhkeohcickiaaaGreatDoorKP15
import Derived.Test.YtlhkeohcickiaaaGreatDoorKP33
import Derived.Test.YtlhkeohcickiaaaGreatDoorKP34
import Derived.Test.YtlhkeohcickiaaaGreatDoorKP32
import Derived.Test.YtlhkeohcickiaaaGreatDoorKP29
set_option linter.all false
namespace Go.Proofs.YtlhkeohcickiaaaGreatDoor.E
open Go.RowKit Go.Proofs.YtlhkeohcickiaaaGreatDoorW.PrintWords Go.Proofs.YtlhkeohcickiaaaGreatDoorW.PrintLast Go.Proofs.YtlhkeohcickiaaaGreatDoorW.PrintMore
section
attribute [local go_sem] max2_int min2_int max_two min_two max_three min_three max_four min_four   -- for this text's walks alone
attribute [local go_sem] Go.Proofs.YtlhkeohcickiaaaGreatDoor.H.leq_str Go.Proofs.YtlhkeohcickiaaaGreatDoor.H.gtr_str Go.Proofs.YtlhkeohcickiaaaGreatDoor.H.geq_str
def besomref09_Text.l0 : Nat → List (S25) → List Int → ByteArray → Int → Option (ByteArray × Int)
 | 0, _, _, _, _ => none
 | k + 1, x0, x1, x8, x9 => if x9 < (x1.length : Int) then (if 0 ≤ x9 then (if 0 ≤ (rd x1 x9) then (if (rd x1 x9) < (x0.length : Int) then (if x8.size + ((rd_T25 x0 (rd x1 x9)).f0).size ≤ 9223372036854775807 then (if (x8 ++ ((rd_T25 x0 (rd x1 x9)).f0)).size + 2 ≤ 9223372036854775807 then (if ((x8 ++ ((rd_T25 x0 (rd x1 x9)).f0)) ++ (⟨#[58, 32]⟩ : ByteArray)).size + ((rd_T25 x0 (rd x1 x9)).f5).size ≤ 9223372036854775807 then (if (((rd_T25 x0 (rd x1 x9)).f3).length : Int) > 0 then (if (((x8 ++ ((rd_T25 x0 (rd x1 x9)).f0)) ++ (⟨#[58, 32]⟩ : ByteArray)) ++ ((rd_T25 x0 (rd x1 x9)).f5)).size + 4 ≤ 9223372036854775807 then ((besomref09_joined.f k ((rd_T25 x0 (rd x1 x9)).f3)).bind fun t398 => (if ((((x8 ++ ((rd_T25 x0 (rd x1 x9)).f0)) ++ (⟨#[58, 32]⟩ : ByteArray)) ++ ((rd_T25 x0 (rd x1 x9)).f5)) ++ (⟨#[32, 105, 102, 32]⟩ : ByteArray)).size + t398.size ≤ 9223372036854775807 then (if (((rd_T25 x0 (rd x1 x9)).f4).length : Int) > 0 then (if (((((x8 ++ ((rd_T25 x0 (rd x1 x9)).f0)) ++ (⟨#[58, 32]⟩ : ByteArray)) ++ ((rd_T25 x0 (rd x1 x9)).f5)) ++ (⟨#[32, 105, 102, 32]⟩ : ByteArray)) ++ t398).size + 8 ≤ 9223372036854775807 then ((besomref09_joined.f k ((rd_T25 x0 (rd x1 x9)).f4)).bind fun t399 => (if ((((((x8 ++ ((rd_T25 x0 (rd x1 x9)).f0)) ++ (⟨#[58, 32]⟩ : ByteArray)) ++ ((rd_T25 x0 (rd x1 x9)).f5)) ++ (⟨#[32, 105, 102, 32]⟩ : ByteArray)) ++ t398) ++ (⟨#[32, 117, 110, 108, 101, 115, 115, 32]⟩ : ByteArray)).size + t399.size ≤ 9223372036854775807 then (if (((((((x8 ++ ((rd_T25 x0 (rd x1 x9)).f0)) ++ (⟨#[58, 32]⟩ : ByteArray)) ++ ((rd_T25 x0 (rd x1 x9)).f5)) ++ (⟨#[32, 105, 102, 32]⟩ : ByteArray)) ++ t398) ++ (⟨#[32, 117, 110, 108, 101, 115, 115, 32]⟩ : ByteArray)) ++ t399).size + 1 ≤ 9223372036854775807 then (besomref09_Text.l0 k x0 x1 ((((((((x8 ++ ((rd_T25 x0 (rd x1 x9)).f0)) ++ (⟨#[58, 32]⟩ : ByteArray)) ++ ((rd_T25 x0 (rd x1 x9)).f5)) ++ (⟨#[32, 105, 102, 32]⟩ : ByteArray)) ++ t398) ++ (⟨#[32, 117, 110, 108, 101, 115, 115, 32]⟩ : ByteArray)) ++ t399) ++ (⟨#[10]⟩ : ByteArray)) (wrap64 (x9 + 1))) else (none)) else (none))) else (none)) else (if (((((x8 ++ ((rd_T25 x0 (rd x1 x9)).f0)) ++ (⟨#[58, 32]⟩ : ByteArray)) ++ ((rd_T25 x0 (rd x1 x9)).f5)) ++ (⟨#[32, 105, 102, 32]⟩ : ByteArray)) ++ t398).size + 1 ≤ 9223372036854775807 then (besomref09_Text.l0 k x0 x1 ((((((x8 ++ ((rd_T25 x0 (rd x1 x9)).f0)) ++ (⟨#[58, 32]⟩ : ByteArray)) ++ ((rd_T25 x0 (rd x1 x9)).f5)) ++ (⟨#[32, 105, 102, 32]⟩ : ByteArray)) ++ t398) ++ (⟨#[10]⟩ : ByteArray)) (wrap64 (x9 + 1))) else (none))) else (none))) else (none)) else (if (((rd_T25 x0 (rd x1 x9)).f4).length : Int) > 0 then (if (((x8 ++ ((rd_T25 x0 (rd x1 x9)).f0)) ++ (⟨#[58, 32]⟩ : ByteArray)) ++ ((rd_T25 x0 (rd x1 x9)).f5)).size + 8 ≤ 9223372036854775807 then ((besomref09_joined.f k ((rd_T25 x0 (rd x1 x9)).f4)).bind fun t400 => (if ((((x8 ++ ((rd_T25 x0 (rd x1 x9)).f0)) ++ (⟨#[58, 32]⟩ : ByteArray)) ++ ((rd_T25 x0 (rd x1 x9)).f5)) ++ (⟨#[32, 117, 110, 108, 101, 115, 115, 32]⟩ : ByteArray)).size + t400.size ≤ 9223372036854775807 then (if (((((x8 ++ ((rd_T25 x0 (rd x1 x9)).f0)) ++ (⟨#[58, 32]⟩ : ByteArray)) ++ ((rd_T25 x0 (rd x1 x9)).f5)) ++ (⟨#[32, 117, 110, 108, 101, 115, 115, 32]⟩ : ByteArray)) ++ t400).size + 1 ≤ 9223372036854775807 then (besomref09_Text.l0 k x0 x1 ((((((x8 ++ ((rd_T25 x0 (rd x1 x9)).f0)) ++ (⟨#[58, 32]⟩ : ByteArray)) ++ ((rd_T25 x0 (rd x1 x9)).f5)) ++ (⟨#[32, 117, 110, 108, 101, 115, 115, 32]⟩ : ByteArray)) ++ t400) ++ (⟨#[10]⟩ : ByteArray)) (wrap64 (x9 + 1))) else (none)) else (none))) else (none)) else (if (((x8 ++ ((rd_T25 x0 (rd x1 x9)).f0)) ++ (⟨#[58, 32]⟩ : ByteArray)) ++ ((rd_T25 x0 (rd x1 x9)).f5)).size + 1 ≤ 9223372036854775807 then (besomref09_Text.l0 k x0 x1 ((((x8 ++ ((rd_T25 x0 (rd x1 x9)).f0)) ++ (⟨#[58, 32]⟩ : ByteArray)) ++ ((rd_T25 x0 (rd x1 x9)).f5)) ++ (⟨#[10]⟩ : ByteArray)) (wrap64 (x9 + 1))) else (none)))) else (none)) else (none)) else (none)) else (none)) else (none)) else (none)) else (some (x8, 0))
def besomref09_Text.f (k : Nat) (l0 : List (S25)) (l1 : List Int) : Option (ByteArray × Int) := (besomref09_Check.f l0).bind fun bt392 => (if bt392.2 = 0 then ((besomref09_indices.f k l0 l1).bind fun t394 => (if t394 = true then (besomref09_Text.l0 k l0 l1 (⟨#[]⟩ : ByteArray) 0) else (some ((⟨#[]⟩ : ByteArray), 4)))) else (some ((⟨#[]⟩ : ByteArray), bt392.2)))
set_option maxHeartbeats 8000000 in
set_option maxRecDepth 100000 in
theorem besomref09_Text.calls (k : Nat) (A0 : Option Addr) (c0 : Nat) (l0 : List (S25)) (A1 : Option Addr) (c1 : Nat) (l1 : List Int) (r1 : ByteArray) (r2 : Int) (w : World) (hr0 : Kd.C k25 w A0 l0.length l0) (hc0 : l0.length ≤ c0) (hr1 : Kd.C (Kd.int .i64) w A1 l1.length l1) (hc1 : l1.length ≤ c1) (h : besomref09_Text.f k l0 l1 = some (r1, r2)) :
  Calls Tryz.prog 35 #[.slice A0 l0.length c0, .slice A1 l1.length c1] w fun e w' => e = .returned (.tuple #[.string r1, .int .i64 r2]) ∧ Below w.heap.size w w' := by
 have hu25 := Tryz.underlying25
 have HR0 := Aside0.mk hr0
 have HC0 := Aside0.mk hc0
 clear hr0 hc0
 have HR1 := Aside0.mk hr1
 have HC1 := Aside0.mk hc1
 clear hr1 hc1
 have HB := Aside0.mk (Below.refl w.heap.size w)
 have H : ((besomref09_Check.f l0).bind fun bt392 => (if bt392.2 = 0 then ((besomref09_indices.f k l0 l1).bind fun t394 => (if t394 = true then (besomref09_Text.l0 k l0 l1 (⟨#[]⟩ : ByteArray) 0) else (some ((⟨#[]⟩ : ByteArray), 4)))) else (some ((⟨#[]⟩ : ByteArray), bt392.2)))) = some (r1, r2) := h
 clear h
 replace H := Option.bind_eq_some_iff.mp H
 obtain ⟨⟨t392, t393⟩, A30, H⟩ := H
 replace H : (if t393 = 0 then ((besomref09_indices.f k l0 l1).bind fun t394 => (if t394 = true then (besomref09_Text.l0 k l0 l1 (⟨#[]⟩ : ByteArray) 0) else (some ((⟨#[]⟩ : ByteArray), 4)))) else (some ((⟨#[]⟩ : ByteArray), t393))) = some (r1, r2) := H
 have A3 := Aside0.mk A30
 clear A30
 by_cases c4 : t393 = 0
 ·rw [if_pos c4] at H
  have c4b0 : (t393 == 0) = true := beq_iff_eq.mpr c4
  have c4b1 : (t393 != 0) = false := bne_eq_false_iff_eq.mpr c4
  clear c4
  replace H := Option.bind_eq_some_iff.mp H
  obtain ⟨t394, A50, H⟩ := H
  replace H : (if t394 = true then (besomref09_Text.l0 k l0 l1 (⟨#[]⟩ : ByteArray) 0) else (some ((⟨#[]⟩ : ByteArray), 4))) = some (r1, r2) := H
  have A5 := Aside0.mk A50
  clear A50
  by_cases c6 : t394 = true
  ·subst c6
   have H1 : (besomref09_Text.l0 k l0 l1 (⟨#[]⟩ : ByteArray) 0) = some (r1, r2) := by rw [if_pos rfl] at H; exact H
   clear H
   have H := H1
   clear H1
   have H' := Aside0.mk H
   clear H
   go_enter Tryz.func35, Tryz.ntmps35
   go_wp2_with (first | ((with_reducible refine gate_callee (f := 13) rfl ?_); refine goesL_ (some 13) rfl rfl Tryz.func13 (by kernel_rfl) rfl #[.slice A0 l0.length c0] rfl (by (try simp only [List.map_toArray, List.map_cons, List.map_nil]); first | done | rfl | (simp only [List.length_drop, List.length_take]; rfl)) ?_; (with_reducible refine (besomref09_Check.calls _ _ l0 t392 t393 _ ?side1 ?side2 A3.out).mono ?_); (case side1 => repeat (first | exact HR0.out | (with_reducible refine Kd.C_alloc ?_ _) | (with_reducible refine Kd.C_drewN ?_ _) | (with_reducible refine Kd.C_drew ?_))); (case side2 => exact HC0.out); rintro e w7 ⟨rfl, hb⟩; refine ⟨_, rfl, ?_⟩; have n0_ := Aside0.mk (below_step (by repeat (first | (with_reducible first | exact HB.out | apply below_alloc | apply pw_below_drewN | apply below_drew1) | exact HB.out)) hb); clear HB; have HB := n0_; clear n0_; (try clear hb); (try clear hb2); (try clear hk); (try clear hi)) | ((with_reducible refine gate_callee (f := 63) rfl ?_); refine goesL_ (some 21) rfl rfl Tryz.func63 (by kernel_rfl) rfl #[.slice A0 l0.length c0, .slice A1 l1.length c1] rfl (by (try simp only [List.map_toArray, List.map_cons, List.map_nil]); first | done | rfl | (simp only [List.length_drop, List.length_take]; rfl)) ?_; (with_reducible refine (besomref09_indices.calls k _ _ l0 _ _ l1 true _ ?side1 ?side2 ?side3 ?side4 A5.out).mono ?_); (case side1 => repeat (first | exact (Kd.C_below HR0.out HB.out) | (with_reducible refine Kd.C_alloc ?_ _) | (with_reducible refine Kd.C_drewN ?_ _) | (with_reducible refine Kd.C_drew ?_))); (case side2 => exact HC0.out); (case side3 => repeat (first | exact (Kd.C_below HR1.out HB.out) | (with_reducible refine Kd.C_alloc ?_ _) | (with_reducible refine Kd.C_drewN ?_ _) | (with_reducible refine Kd.C_drew ?_))); (case side4 => exact HC1.out); rintro e w' ⟨rfl, ⟨nd, rfl⟩⟩; refine ⟨_, rfl, ?_⟩))
   go_loopg [8, 9] k (fun kq v8 v9 w' => ∃ (x8_1 : ByteArray) (x9_1 : Int), v8 = .string x8_1 ∧ v9 = .int .i64 x9_1 ∧ Aside0 (besomref09_Text.l0 kq l0 l1 x8_1 x9_1 = some (r1, r2)) ∧ Aside0 (kq ≤ k) ∧ Aside0 (Below w.heap.size w w'))
   case atStart => exact ⟨((⟨#[]⟩ : ByteArray)), (0), (by first | rfl | (simp; done) | (simp [*]; done)), (by first | rfl | (simp; done) | (simp [*]; done)), H', ⟨Nat.le_refl _⟩, ⟨by repeat (first | (with_reducible first | exact HB.out | apply below_alloc | apply pw_below_drewN | apply below_drew1) | exact HB.out)⟩⟩
   case round =>
    clear H'
    try clear c1
    try clear p2
    try clear c3
    try clear c4
    try clear c4b0
    try clear c4b1
    try clear c6
    obtain ⟨x8_1, x9_1, rfl, rfl, HA, HK1, HB⟩ := hrel
    cases gk with
    | zero => exact absurd HA.out (by simp [besomref09_Text.l0])
    | succ k1 =>
     have H := HA.out
     clear HA
     simp only [besomref09_Text.l0] at H
     by_cases c8 : x9_1 < (l1.length : Int)
     ·rw [if_pos c8] at H
      have c8b0 : decide (x9_1 < (l1.length : Int)) = true := decide_eq_true c8
      clear c8
      by_cases c9 : 0 ≤ x9_1
      ·rw [if_pos c9] at H
       have c9b0 : decide (0 ≤ x9_1) = true := decide_eq_true c9
       clear c9
       by_cases c10 : 0 ≤ (rd l1 x9_1)
       ·rw [if_pos c10] at H
        have c10b0 : decide (0 ≤ (rd l1 x9_1)) = true := decide_eq_true c10
        clear c10
        by_cases c11 : (rd l1 x9_1) < (l0.length : Int)
        ·rw [if_pos c11] at H
         have c11b0 : decide ((rd l1 x9_1) < (l0.length : Int)) = true := decide_eq_true c11
         clear c11
         by_cases c12 : x8_1.size + ((rd_T25 l0 (rd l1 x9_1)).f0).size ≤ 9223372036854775807
         ·rw [if_pos c12] at H
          have c12b0 := eq_true c12
          have c12b1 : decide (x8_1.size + ((rd_T25 l0 (rd l1 x9_1)).f0).size ≤ 9223372036854775807) = true := decide_eq_true c12
          try have c12b2 : (9223372036854775807 < x8_1.size + ((rd_T25 l0 (rd l1 x9_1)).f0).size) = False := eq_false (Nat.not_lt.2 c12)
          try (have c12b3x := c12b2; simp only [ByteArray.size_append, show (⟨#[58, 32]⟩ : ByteArray).size = 2 from rfl, show (⟨#[32, 105, 102, 32]⟩ : ByteArray).size = 4 from rfl, show (⟨#[32, 117, 110, 108, 101, 115, 115, 32]⟩ : ByteArray).size = 8 from rfl, show (⟨#[10]⟩ : ByteArray).size = 1 from rfl] at c12b3x)
          by_cases c13 : (x8_1 ++ ((rd_T25 l0 (rd l1 x9_1)).f0)).size + 2 ≤ 9223372036854775807
          ·rw [if_pos c13] at H
           have c13b0 := eq_true c13
           have c13b1 : decide ((x8_1 ++ ((rd_T25 l0 (rd l1 x9_1)).f0)).size + 2 ≤ 9223372036854775807) = true := decide_eq_true c13
           try have c13b2 : (9223372036854775807 < (x8_1 ++ ((rd_T25 l0 (rd l1 x9_1)).f0)).size + 2) = False := eq_false (Nat.not_lt.2 c13)
           try (have c13b3x := c13b2; simp only [ByteArray.size_append, show (⟨#[58, 32]⟩ : ByteArray).size = 2 from rfl, show (⟨#[32, 105, 102, 32]⟩ : ByteArray).size = 4 from rfl, show (⟨#[32, 117, 110, 108, 101, 115, 115, 32]⟩ : ByteArray).size = 8 from rfl, show (⟨#[10]⟩ : ByteArray).size = 1 from rfl] at c13b3x)
           by_cases c14 : ((x8_1 ++ ((rd_T25 l0 (rd l1 x9_1)).f0)) ++ (⟨#[58, 32]⟩ : ByteArray)).size + ((rd_T25 l0 (rd l1 x9_1)).f5).size ≤ 9223372036854775807
           ·rw [if_pos c14] at H
            have c14b0 := eq_true c14
            have c14b1 : decide (((x8_1 ++ ((rd_T25 l0 (rd l1 x9_1)).f0)) ++ (⟨#[58, 32]⟩ : ByteArray)).size + ((rd_T25 l0 (rd l1 x9_1)).f5).size ≤ 9223372036854775807) = true := decide_eq_true c14
            try have c14b2 : (9223372036854775807 < ((x8_1 ++ ((rd_T25 l0 (rd l1 x9_1)).f0)) ++ (⟨#[58, 32]⟩ : ByteArray)).size + ((rd_T25 l0 (rd l1 x9_1)).f5).size) = False := eq_false (Nat.not_lt.2 c14)
            try (have c14b3x := c14b2; simp only [ByteArray.size_append, show (⟨#[58, 32]⟩ : ByteArray).size = 2 from rfl, show (⟨#[32, 105, 102, 32]⟩ : ByteArray).size = 4 from rfl, show (⟨#[32, 117, 110, 108, 101, 115, 115, 32]⟩ : ByteArray).size = 8 from rfl, show (⟨#[10]⟩ : ByteArray).size = 1 from rfl] at c14b3x)
            by_cases c15 : (((rd_T25 l0 (rd l1 x9_1)).f3).length : Int) > 0
            ·rw [if_pos c15] at H
             have c15b0 : decide (0 < (((rd_T25 l0 (rd l1 x9_1)).f3).length : Int)) = true := decide_eq_true c15
             have c15b1 : decide (0 < ((rd_T25 l0 (rd l1 x9_1)).f3).length) = true := decide_eq_true (by omega)
             clear c15
             by_cases c16 : (((x8_1 ++ ((rd_T25 l0 (rd l1 x9_1)).f0)) ++ (⟨#[58, 32]⟩ : ByteArray)) ++ ((rd_T25 l0 (rd l1 x9_1)).f5)).size + 4 ≤ 9223372036854775807
             ·rw [if_pos c16] at H
              have c16b0 := eq_true c16
              have c16b1 : decide ((((x8_1 ++ ((rd_T25 l0 (rd l1 x9_1)).f0)) ++ (⟨#[58, 32]⟩ : ByteArray)) ++ ((rd_T25 l0 (rd l1 x9_1)).f5)).size + 4 ≤ 9223372036854775807) = true := decide_eq_true c16
              try have c16b2 : (9223372036854775807 < (((x8_1 ++ ((rd_T25 l0 (rd l1 x9_1)).f0)) ++ (⟨#[58, 32]⟩ : ByteArray)) ++ ((rd_T25 l0 (rd l1 x9_1)).f5)).size + 4) = False := eq_false (Nat.not_lt.2 c16)
              try (have c16b3x := c16b2; simp only [ByteArray.size_append, show (⟨#[58, 32]⟩ : ByteArray).size = 2 from rfl, show (⟨#[32, 105, 102, 32]⟩ : ByteArray).size = 4 from rfl, show (⟨#[32, 117, 110, 108, 101, 115, 115, 32]⟩ : ByteArray).size = 8 from rfl, show (⟨#[10]⟩ : ByteArray).size = 1 from rfl] at c16b3x)
              replace H := Option.bind_eq_some_iff.mp H
              obtain ⟨t398, A170, H⟩ := H
              replace H : (if ((((x8_1 ++ ((rd_T25 l0 (rd l1 x9_1)).f0)) ++ (⟨#[58, 32]⟩ : ByteArray)) ++ ((rd_T25 l0 (rd l1 x9_1)).f5)) ++ (⟨#[32, 105, 102, 32]⟩ : ByteArray)).size + t398.size ≤ 9223372036854775807 then (if (((rd_T25 l0 (rd l1 x9_1)).f4).length : Int) > 0 then (if (((((x8_1 ++ ((rd_T25 l0 (rd l1 x9_1)).f0)) ++ (⟨#[58, 32]⟩ : ByteArray)) ++ ((rd_T25 l0 (rd l1 x9_1)).f5)) ++ (⟨#[32, 105, 102, 32]⟩ : ByteArray)) ++ t398).size + 8 ≤ 9223372036854775807 then ((besomref09_joined.f k1 ((rd_T25 l0 (rd l1 x9_1)).f4)).bind fun t399 => (if ((((((x8_1 ++ ((rd_T25 l0 (rd l1 x9_1)).f0)) ++ (⟨#[58, 32]⟩ : ByteArray)) ++ ((rd_T25 l0 (rd l1 x9_1)).f5)) ++ (⟨#[32, 105, 102, 32]⟩ : ByteArray)) ++ t398) ++ (⟨#[32, 117, 110, 108, 101, 115, 115, 32]⟩ : ByteArray)).size + t399.size ≤ 9223372036854775807 then (if (((((((x8_1 ++ ((rd_T25 l0 (rd l1 x9_1)).f0)) ++ (⟨#[58, 32]⟩ : ByteArray)) ++ ((rd_T25 l0 (rd l1 x9_1)).f5)) ++ (⟨#[32, 105, 102, 32]⟩ : ByteArray)) ++ t398) ++ (⟨#[32, 117, 110, 108, 101, 115, 115, 32]⟩ : ByteArray)) ++ t399).size + 1 ≤ 9223372036854775807 then (besomref09_Text.l0 k1 l0 l1 ((((((((x8_1 ++ ((rd_T25 l0 (rd l1 x9_1)).f0)) ++ (⟨#[58, 32]⟩ : ByteArray)) ++ ((rd_T25 l0 (rd l1 x9_1)).f5)) ++ (⟨#[32, 105, 102, 32]⟩ : ByteArray)) ++ t398) ++ (⟨#[32, 117, 110, 108, 101, 115, 115, 32]⟩ : ByteArray)) ++ t399) ++ (⟨#[10]⟩ : ByteArray)) (wrap64 (x9_1 + 1))) else (none)) else (none))) else (none)) else (if (((((x8_1 ++ ((rd_T25 l0 (rd l1 x9_1)).f0)) ++ (⟨#[58, 32]⟩ : ByteArray)) ++ ((rd_T25 l0 (rd l1 x9_1)).f5)) ++ (⟨#[32, 105, 102, 32]⟩ : ByteArray)) ++ t398).size + 1 ≤ 9223372036854775807 then (besomref09_Text.l0 k1 l0 l1 ((((((x8_1 ++ ((rd_T25 l0 (rd l1 x9_1)).f0)) ++ (⟨#[58, 32]⟩ : ByteArray)) ++ ((rd_T25 l0 (rd l1 x9_1)).f5)) ++ (⟨#[32, 105, 102, 32]⟩ : ByteArray)) ++ t398) ++ (⟨#[10]⟩ : ByteArray)) (wrap64 (x9_1 + 1))) else (none))) else (none)) = some (r1, r2) := H
              have A17 := Aside0.mk A170
              clear A170
              by_cases c18 : ((((x8_1 ++ ((rd_T25 l0 (rd l1 x9_1)).f0)) ++ (⟨#[58, 32]⟩ : ByteArray)) ++ ((rd_T25 l0 (rd l1 x9_1)).f5)) ++ (⟨#[32, 105, 102, 32]⟩ : ByteArray)).size + t398.size ≤ 9223372036854775807
              ·rw [if_pos c18] at H
               have c18b0 := eq_true c18
               have c18b1 : decide (((((x8_1 ++ ((rd_T25 l0 (rd l1 x9_1)).f0)) ++ (⟨#[58, 32]⟩ : ByteArray)) ++ ((rd_T25 l0 (rd l1 x9_1)).f5)) ++ (⟨#[32, 105, 102, 32]⟩ : ByteArray)).size + t398.size ≤ 9223372036854775807) = true := decide_eq_true c18
               try have c18b2 : (9223372036854775807 < ((((x8_1 ++ ((rd_T25 l0 (rd l1 x9_1)).f0)) ++ (⟨#[58, 32]⟩ : ByteArray)) ++ ((rd_T25 l0 (rd l1 x9_1)).f5)) ++ (⟨#[32, 105, 102, 32]⟩ : ByteArray)).size + t398.size) = False := eq_false (Nat.not_lt.2 c18)
               try (have c18b3x := c18b2; simp only [ByteArray.size_append, show (⟨#[58, 32]⟩ : ByteArray).size = 2 from rfl, show (⟨#[32, 105, 102, 32]⟩ : ByteArray).size = 4 from rfl, show (⟨#[32, 117, 110, 108, 101, 115, 115, 32]⟩ : ByteArray).size = 8 from rfl, show (⟨#[10]⟩ : ByteArray).size = 1 from rfl] at c18b3x)
               by_cases c19 : (((rd_T25 l0 (rd l1 x9_1)).f4).length : Int) > 0
               ·rw [if_pos c19] at H
                have c19b0 : decide (0 < (((rd_T25 l0 (rd l1 x9_1)).f4).length : Int)) = true := decide_eq_true c19
                have c19b1 : decide (0 < ((rd_T25 l0 (rd l1 x9_1)).f4).length) = true := decide_eq_true (by omega)
                clear c19
                by_cases c20 : (((((x8_1 ++ ((rd_T25 l0 (rd l1 x9_1)).f0)) ++ (⟨#[58, 32]⟩ : ByteArray)) ++ ((rd_T25 l0 (rd l1 x9_1)).f5)) ++ (⟨#[32, 105, 102, 32]⟩ : ByteArray)) ++ t398).size + 8 ≤ 9223372036854775807
                ·rw [if_pos c20] at H
                 have c20b0 := eq_true c20
                 have c20b1 : decide ((((((x8_1 ++ ((rd_T25 l0 (rd l1 x9_1)).f0)) ++ (⟨#[58, 32]⟩ : ByteArray)) ++ ((rd_T25 l0 (rd l1 x9_1)).f5)) ++ (⟨#[32, 105, 102, 32]⟩ : ByteArray)) ++ t398).size + 8 ≤ 9223372036854775807) = true := decide_eq_true c20
                 try have c20b2 : (9223372036854775807 < (((((x8_1 ++ ((rd_T25 l0 (rd l1 x9_1)).f0)) ++ (⟨#[58, 32]⟩ : ByteArray)) ++ ((rd_T25 l0 (rd l1 x9_1)).f5)) ++ (⟨#[32, 105, 102, 32]⟩ : ByteArray)) ++ t398).size + 8) = False := eq_false (Nat.not_lt.2 c20)
                 try (have c20b3x := c20b2; simp only [ByteArray.size_append, show (⟨#[58, 32]⟩ : ByteArray).size = 2 from rfl, show (⟨#[32, 105, 102, 32]⟩ : ByteArray).size = 4 from rfl, show (⟨#[32, 117, 110, 108, 101, 115, 115, 32]⟩ : ByteArray).size = 8 from rfl, show (⟨#[10]⟩ : ByteArray).size = 1 from rfl] at c20b3x)
                 replace H := Option.bind_eq_some_iff.mp H
                 obtain ⟨t399, A210, H⟩ := H
                 replace H : (if ((((((x8_1 ++ ((rd_T25 l0 (rd l1 x9_1)).f0)) ++ (⟨#[58, 32]⟩ : ByteArray)) ++ ((rd_T25 l0 (rd l1 x9_1)).f5)) ++ (⟨#[32, 105, 102, 32]⟩ : ByteArray)) ++ t398) ++ (⟨#[32, 117, 110, 108, 101, 115, 115, 32]⟩ : ByteArray)).size + t399.size ≤ 9223372036854775807 then (if (((((((x8_1 ++ ((rd_T25 l0 (rd l1 x9_1)).f0)) ++ (⟨#[58, 32]⟩ : ByteArray)) ++ ((rd_T25 l0 (rd l1 x9_1)).f5)) ++ (⟨#[32, 105, 102, 32]⟩ : ByteArray)) ++ t398) ++ (⟨#[32, 117, 110, 108, 101, 115, 115, 32]⟩ : ByteArray)) ++ t399).size + 1 ≤ 9223372036854775807 then (besomref09_Text.l0 k1 l0 l1 ((((((((x8_1 ++ ((rd_T25 l0 (rd l1 x9_1)).f0)) ++ (⟨#[58, 32]⟩ : ByteArray)) ++ ((rd_T25 l0 (rd l1 x9_1)).f5)) ++ (⟨#[32, 105, 102, 32]⟩ : ByteArray)) ++ t398) ++ (⟨#[32, 117, 110, 108, 101, 115, 115, 32]⟩ : ByteArray)) ++ t399) ++ (⟨#[10]⟩ : ByteArray)) (wrap64 (x9_1 + 1))) else (none)) else (none)) = some (r1, r2) := H
                 have A21 := Aside0.mk A210
                 clear A210
                 by_cases c22 : ((((((x8_1 ++ ((rd_T25 l0 (rd l1 x9_1)).f0)) ++ (⟨#[58, 32]⟩ : ByteArray)) ++ ((rd_T25 l0 (rd l1 x9_1)).f5)) ++ (⟨#[32, 105, 102, 32]⟩ : ByteArray)) ++ t398) ++ (⟨#[32, 117, 110, 108, 101, 115, 115, 32]⟩ : ByteArray)).size + t399.size ≤ 9223372036854775807
                 ·rw [if_pos c22] at H
                  have c22b0 := eq_true c22
                  have c22b1 : decide (((((((x8_1 ++ ((rd_T25 l0 (rd l1 x9_1)).f0)) ++ (⟨#[58, 32]⟩ : ByteArray)) ++ ((rd_T25 l0 (rd l1 x9_1)).f5)) ++ (⟨#[32, 105, 102, 32]⟩ : ByteArray)) ++ t398) ++ (⟨#[32, 117, 110, 108, 101, 115, 115, 32]⟩ : ByteArray)).size + t399.size ≤ 9223372036854775807) = true := decide_eq_true c22
                  try have c22b2 : (9223372036854775807 < ((((((x8_1 ++ ((rd_T25 l0 (rd l1 x9_1)).f0)) ++ (⟨#[58, 32]⟩ : ByteArray)) ++ ((rd_T25 l0 (rd l1 x9_1)).f5)) ++ (⟨#[32, 105, 102, 32]⟩ : ByteArray)) ++ t398) ++ (⟨#[32, 117, 110, 108, 101, 115, 115, 32]⟩ : ByteArray)).size + t399.size) = False := eq_false (Nat.not_lt.2 c22)
                  try (have c22b3x := c22b2; simp only [ByteArray.size_append, show (⟨#[58, 32]⟩ : ByteArray).size = 2 from rfl, show (⟨#[32, 105, 102, 32]⟩ : ByteArray).size = 4 from rfl, show (⟨#[32, 117, 110, 108, 101, 115, 115, 32]⟩ : ByteArray).size = 8 from rfl, show (⟨#[10]⟩ : ByteArray).size = 1 from rfl] at c22b3x)
                  by_cases c23 : (((((((x8_1 ++ ((rd_T25 l0 (rd l1 x9_1)).f0)) ++ (⟨#[58, 32]⟩ : ByteArray)) ++ ((rd_T25 l0 (rd l1 x9_1)).f5)) ++ (⟨#[32, 105, 102, 32]⟩ : ByteArray)) ++ t398) ++ (⟨#[32, 117, 110, 108, 101, 115, 115, 32]⟩ : ByteArray)) ++ t399).size + 1 ≤ 9223372036854775807
                  ·rw [if_pos c23] at H
                   have c23b0 := eq_true c23
                   have c23b1 : decide ((((((((x8_1 ++ ((rd_T25 l0 (rd l1 x9_1)).f0)) ++ (⟨#[58, 32]⟩ : ByteArray)) ++ ((rd_T25 l0 (rd l1 x9_1)).f5)) ++ (⟨#[32, 105, 102, 32]⟩ : ByteArray)) ++ t398) ++ (⟨#[32, 117, 110, 108, 101, 115, 115, 32]⟩ : ByteArray)) ++ t399).size + 1 ≤ 9223372036854775807) = true := decide_eq_true c23
                   try have c23b2 : (9223372036854775807 < (((((((x8_1 ++ ((rd_T25 l0 (rd l1 x9_1)).f0)) ++ (⟨#[58, 32]⟩ : ByteArray)) ++ ((rd_T25 l0 (rd l1 x9_1)).f5)) ++ (⟨#[32, 105, 102, 32]⟩ : ByteArray)) ++ t398) ++ (⟨#[32, 117, 110, 108, 101, 115, 115, 32]⟩ : ByteArray)) ++ t399).size + 1) = False := eq_false (Nat.not_lt.2 c23)
                   try (have c23b3x := c23b2; simp only [ByteArray.size_append, show (⟨#[58, 32]⟩ : ByteArray).size = 2 from rfl, show (⟨#[32, 105, 102, 32]⟩ : ByteArray).size = 4 from rfl, show (⟨#[32, 117, 110, 108, 101, 115, 115, 32]⟩ : ByteArray).size = 8 from rfl, show (⟨#[10]⟩ : ByteArray).size = 1 from rfl] at c23b3x)
                   have H' := Aside0.mk H
                   clear H
                   have p395 : 0 ≤ (x9_1 : Int) := of_decide_eq_true (by first | (with_reducible assumption) | assumption)
                   have q395 : x9_1 < (l1.length : Int) := of_decide_eq_true (by first | (with_reducible assumption) | assumption)
                   obtain ⟨ad395, e395, hx395_0⟩ := Kd.at_int HR1.out x9_1 p395 q395
                   cases e395
                   replace hx395_0 := (HB.out.cell (World.block_lt_of_cell? w _ hx395_0)).trans hx395_0
                   replace p395 := eq_true p395
                   replace q395 := eq_true q395
                   have p396 : 0 ≤ ((rd l1 x9_1) : Int) := of_decide_eq_true (by first | (with_reducible assumption) | assumption)
                   have q396 : (rd l1 x9_1) < (l0.length : Int) := of_decide_eq_true (by first | (with_reducible assumption) | assumption)
                   obtain ⟨ad396, A396_3, c396_3, A396_4, c396_4, e396, hx396_0, hx396_1, hx396_2, hx396_3, hx396_4, hx396_5, hl396_3, hi396_3, hl396_4, hi396_4⟩ := at_T25 HR0.out (rd l1 x9_1) p396 q396
                   cases e396
                   replace hx396_0 := (HB.out.cell (World.block_lt_of_cell? w _ hx396_0)).trans hx396_0
                   replace hx396_1 := (HB.out.cell (World.block_lt_of_cell? w _ hx396_1)).trans hx396_1
                   replace hx396_2 := (HB.out.cell (World.block_lt_of_cell? w _ hx396_2)).trans hx396_2
                   replace hx396_3 := (HB.out.cell (World.block_lt_of_cell? w _ hx396_3)).trans hx396_3
                   replace hx396_4 := (HB.out.cell (World.block_lt_of_cell? w _ hx396_4)).trans hx396_4
                   replace hx396_5 := (HB.out.cell (World.block_lt_of_cell? w _ hx396_5)).trans hx396_5
                   have HR396_3 := Aside0.mk hi396_3
                   have HC396_3 := Aside0.mk hl396_3
                   clear hi396_3 hl396_3
                   have HR396_4 := Aside0.mk hi396_4
                   have HC396_4 := Aside0.mk hl396_4
                   clear hi396_4 hl396_4
                   replace p396 := eq_true p396
                   replace q396 := eq_true q396
                   go_wp2_with (first | ((with_reducible refine gate_dst (N := 10) rfl ?_); refine box_event ?hg (N := 10) ?hd (cs := #[.string (⟨#[]⟩ : ByteArray), .int .i64 0, .int .i64 0, .slice none 0 0, .slice none 0 0, .string (⟨#[]⟩ : ByteArray)]) (t := 25) ?hr ?_; (case hd => rfl); (case hg => rfl); (case hr => first | (go_simp; done) | (go_simp; rfl)); intro gb397 hg w24 hbox hb; have n0_ := Aside0.mk (below_step (by repeat (first | (with_reducible first | exact HB.out | apply below_alloc | apply pw_below_drewN | apply below_drew1) | exact HB.out)) hb); have n1_ := Aside0.mk (hbox); have n2_ := Aside0.mk ((by rw [hg]; exact (below_size (by repeat (first | (with_reducible first | exact HB.out | apply below_alloc | apply pw_below_drewN | apply below_drew1) | exact HB.out))) : w.heap.size ≤ gb397)); have n3_ := Aside0.mk ((by rw [hg]; exact (below_size (by repeat (first | (with_reducible first | exact HB.out | apply below_alloc | apply pw_below_drewN | apply below_drew1) | exact HB.out))) : w.heap.size ≤ gb397)); clear HB; have HB := n0_; have BK397 := n1_; have GW397 := n2_; have GE397 := n3_; clear n0_ n1_ n2_ n3_; clear hb hbox hg; have hcz25_0 : w24.cell? ⟨gb397, 0, none⟩ = some (.string (⟨#[]⟩ : ByteArray)) := (blk_cell BK397.out 0).trans rfl; have hcz25_1 : w24.cell? ⟨gb397, 1, none⟩ = some (.int .i64 0) := (blk_cell BK397.out 1).trans rfl; have hcz25_2 : w24.cell? ⟨gb397, 2, none⟩ = some (.int .i64 0) := (blk_cell BK397.out 2).trans rfl; have hcz25_3 : w24.cell? ⟨gb397, 3, none⟩ = some (.slice none 0 0) := (blk_cell BK397.out 3).trans rfl; have hcz25_4 : w24.cell? ⟨gb397, 4, none⟩ = some (.slice none 0 0) := (blk_cell BK397.out 4).trans rfl; have hcz25_5 : w24.cell? ⟨gb397, 5, none⟩ = some (.string (⟨#[]⟩ : ByteArray)) := (blk_cell BK397.out 5).trans rfl; have hfz25_0 := blk_frozen BK397.out 0; have hfz25_1 := blk_frozen BK397.out 1; have hfz25_2 := blk_frozen BK397.out 2; have hfz25_3 := blk_frozen BK397.out 3; have hfz25_4 := blk_frozen BK397.out 4; have hfz25_5 := blk_frozen BK397.out 5) | ((with_reducible refine gate_callee (f := 68) rfl ?_); refine goesL_ (some 52) rfl rfl Tryz.func68 (by kernel_rfl) rfl #[.slice A396_3 ((rd_T25 l0 (rd l1 x9_1)).f3).length c396_3] rfl (by (try simp only [List.map_toArray, List.map_cons, List.map_nil]); first | done | rfl | (simp only [List.length_drop, List.length_take]; rfl)) ?_; (with_reducible refine (besomref09_joined.calls k1 _ _ ((rd_T25 l0 (rd l1 x9_1)).f3) t398 _ ?side1 ?side2 A17.out).mono ?_); (case side1 => exact Kd.C_below HR396_3.out (by repeat (first | (with_reducible first | exact HB.out | apply below_alloc | apply pw_below_drewN | apply below_drew1 | refine below_set ?_ GE397.out) | exact HB.out))); (case side2 => exact HC396_3.out); rintro e w' ⟨rfl, ⟨nd, rfl⟩⟩; refine ⟨_, rfl, ?_⟩) | ((with_reducible refine gate_callee (f := 68) rfl ?_); refine goesL_ (some 62) rfl rfl Tryz.func68 (by kernel_rfl) rfl #[.slice A396_4 ((rd_T25 l0 (rd l1 x9_1)).f4).length c396_4] rfl (by (try simp only [List.map_toArray, List.map_cons, List.map_nil]); first | done | rfl | (simp only [List.length_drop, List.length_take]; rfl)) ?_; (with_reducible refine (besomref09_joined.calls k1 _ _ ((rd_T25 l0 (rd l1 x9_1)).f4) t399 _ ?side1 ?side2 A21.out).mono ?_); (case side1 => exact Kd.C_below HR396_4.out (by repeat (first | (with_reducible first | exact HB.out | apply below_alloc | apply pw_below_drewN | apply below_drew1 | refine below_set ?_ GE397.out) | exact HB.out))); (case side2 => exact HC396_4.out); rintro e w' ⟨rfl, ⟨nd, rfl⟩⟩; refine ⟨_, rfl, ?_⟩))
                   go_roundg k1
                   case measure => have := HK1.out; omega
                   case rel => exact ⟨((((((((x8_1 ++ ((rd_T25 l0 (rd l1 x9_1)).f0)) ++ (⟨#[58, 32]⟩ : ByteArray)) ++ ((rd_T25 l0 (rd l1 x9_1)).f5)) ++ (⟨#[32, 105, 102, 32]⟩ : ByteArray)) ++ t398) ++ (⟨#[32, 117, 110, 108, 101, 115, 115, 32]⟩ : ByteArray)) ++ t399) ++ (⟨#[10]⟩ : ByteArray)), (wrap64 (x9_1 + 1)), (by first | rfl | (simp; done) | (simp [*]; done)), (by first | rfl | (simp; done) | (simp [*]; done)), H', ⟨by have := HK1.out; omega⟩, ⟨by repeat (first | (with_reducible first | exact HB.out | apply below_alloc | apply pw_below_drewN | apply below_drew1 | refine below_set ?_ GE397.out) | exact HB.out)⟩⟩
                  ·rw [if_neg c23] at H
                   exact absurd H (by simp)
                 ·rw [if_neg c22] at H
                  exact absurd H (by simp)
                ·rw [if_neg c20] at H
                 exact absurd H (by simp)
               ·rw [if_neg c19] at H
                have c19b0 : decide (0 < (((rd_T25 l0 (rd l1 x9_1)).f4).length : Int)) = false := decide_eq_false c19
                have c19b1 : decide (0 < ((rd_T25 l0 (rd l1 x9_1)).f4).length) = false := decide_eq_false (by omega)
                clear c19
                by_cases c26 : (((((x8_1 ++ ((rd_T25 l0 (rd l1 x9_1)).f0)) ++ (⟨#[58, 32]⟩ : ByteArray)) ++ ((rd_T25 l0 (rd l1 x9_1)).f5)) ++ (⟨#[32, 105, 102, 32]⟩ : ByteArray)) ++ t398).size + 1 ≤ 9223372036854775807
                ·rw [if_pos c26] at H
                 have c26b0 := eq_true c26
                 have c26b1 : decide ((((((x8_1 ++ ((rd_T25 l0 (rd l1 x9_1)).f0)) ++ (⟨#[58, 32]⟩ : ByteArray)) ++ ((rd_T25 l0 (rd l1 x9_1)).f5)) ++ (⟨#[32, 105, 102, 32]⟩ : ByteArray)) ++ t398).size + 1 ≤ 9223372036854775807) = true := decide_eq_true c26
                 try have c26b2 : (9223372036854775807 < (((((x8_1 ++ ((rd_T25 l0 (rd l1 x9_1)).f0)) ++ (⟨#[58, 32]⟩ : ByteArray)) ++ ((rd_T25 l0 (rd l1 x9_1)).f5)) ++ (⟨#[32, 105, 102, 32]⟩ : ByteArray)) ++ t398).size + 1) = False := eq_false (Nat.not_lt.2 c26)
                 try (have c26b3x := c26b2; simp only [ByteArray.size_append, show (⟨#[58, 32]⟩ : ByteArray).size = 2 from rfl, show (⟨#[32, 105, 102, 32]⟩ : ByteArray).size = 4 from rfl, show (⟨#[32, 117, 110, 108, 101, 115, 115, 32]⟩ : ByteArray).size = 8 from rfl, show (⟨#[10]⟩ : ByteArray).size = 1 from rfl] at c26b3x)
                 have H' := Aside0.mk H
                 clear H
                 have p395 : 0 ≤ (x9_1 : Int) := of_decide_eq_true (by first | (with_reducible assumption) | assumption)
                 have q395 : x9_1 < (l1.length : Int) := of_decide_eq_true (by first | (with_reducible assumption) | assumption)
                 obtain ⟨ad395, e395, hx395_0⟩ := Kd.at_int HR1.out x9_1 p395 q395
                 cases e395
                 replace hx395_0 := (HB.out.cell (World.block_lt_of_cell? w _ hx395_0)).trans hx395_0
                 replace p395 := eq_true p395
                 replace q395 := eq_true q395
                 have p396 : 0 ≤ ((rd l1 x9_1) : Int) := of_decide_eq_true (by first | (with_reducible assumption) | assumption)
                 have q396 : (rd l1 x9_1) < (l0.length : Int) := of_decide_eq_true (by first | (with_reducible assumption) | assumption)
                 obtain ⟨ad396, A396_3, c396_3, A396_4, c396_4, e396, hx396_0, hx396_1, hx396_2, hx396_3, hx396_4, hx396_5, hl396_3, hi396_3, hl396_4, hi396_4⟩ := at_T25 HR0.out (rd l1 x9_1) p396 q396
                 cases e396
                 replace hx396_0 := (HB.out.cell (World.block_lt_of_cell? w _ hx396_0)).trans hx396_0
                 replace hx396_1 := (HB.out.cell (World.block_lt_of_cell? w _ hx396_1)).trans hx396_1
                 replace hx396_2 := (HB.out.cell (World.block_lt_of_cell? w _ hx396_2)).trans hx396_2
                 replace hx396_3 := (HB.out.cell (World.block_lt_of_cell? w _ hx396_3)).trans hx396_3
                 replace hx396_4 := (HB.out.cell (World.block_lt_of_cell? w _ hx396_4)).trans hx396_4
                 replace hx396_5 := (HB.out.cell (World.block_lt_of_cell? w _ hx396_5)).trans hx396_5
                 have HR396_3 := Aside0.mk hi396_3
                 have HC396_3 := Aside0.mk hl396_3
                 clear hi396_3 hl396_3
                 have HR396_4 := Aside0.mk hi396_4
                 have HC396_4 := Aside0.mk hl396_4
                 clear hi396_4 hl396_4
                 replace p396 := eq_true p396
                 replace q396 := eq_true q396
                 go_wp2_with (first | ((with_reducible refine gate_dst (N := 10) rfl ?_); refine box_event ?hg (N := 10) ?hd (cs := #[.string (⟨#[]⟩ : ByteArray), .int .i64 0, .int .i64 0, .slice none 0 0, .slice none 0 0, .string (⟨#[]⟩ : ByteArray)]) (t := 25) ?hr ?_; (case hd => rfl); (case hg => rfl); (case hr => first | (go_simp; done) | (go_simp; rfl)); intro gb397 hg w27 hbox hb; have n0_ := Aside0.mk (below_step (by repeat (first | (with_reducible first | exact HB.out | apply below_alloc | apply pw_below_drewN | apply below_drew1) | exact HB.out)) hb); have n1_ := Aside0.mk (hbox); have n2_ := Aside0.mk ((by rw [hg]; exact (below_size (by repeat (first | (with_reducible first | exact HB.out | apply below_alloc | apply pw_below_drewN | apply below_drew1) | exact HB.out))) : w.heap.size ≤ gb397)); have n3_ := Aside0.mk ((by rw [hg]; exact (below_size (by repeat (first | (with_reducible first | exact HB.out | apply below_alloc | apply pw_below_drewN | apply below_drew1) | exact HB.out))) : w.heap.size ≤ gb397)); clear HB; have HB := n0_; have BK397 := n1_; have GW397 := n2_; have GE397 := n3_; clear n0_ n1_ n2_ n3_; clear hb hbox hg; have hcz28_0 : w27.cell? ⟨gb397, 0, none⟩ = some (.string (⟨#[]⟩ : ByteArray)) := (blk_cell BK397.out 0).trans rfl; have hcz28_1 : w27.cell? ⟨gb397, 1, none⟩ = some (.int .i64 0) := (blk_cell BK397.out 1).trans rfl; have hcz28_2 : w27.cell? ⟨gb397, 2, none⟩ = some (.int .i64 0) := (blk_cell BK397.out 2).trans rfl; have hcz28_3 : w27.cell? ⟨gb397, 3, none⟩ = some (.slice none 0 0) := (blk_cell BK397.out 3).trans rfl; have hcz28_4 : w27.cell? ⟨gb397, 4, none⟩ = some (.slice none 0 0) := (blk_cell BK397.out 4).trans rfl; have hcz28_5 : w27.cell? ⟨gb397, 5, none⟩ = some (.string (⟨#[]⟩ : ByteArray)) := (blk_cell BK397.out 5).trans rfl; have hfz28_0 := blk_frozen BK397.out 0; have hfz28_1 := blk_frozen BK397.out 1; have hfz28_2 := blk_frozen BK397.out 2; have hfz28_3 := blk_frozen BK397.out 3; have hfz28_4 := blk_frozen BK397.out 4; have hfz28_5 := blk_frozen BK397.out 5) | ((with_reducible refine gate_callee (f := 68) rfl ?_); refine goesL_ (some 52) rfl rfl Tryz.func68 (by kernel_rfl) rfl #[.slice A396_3 ((rd_T25 l0 (rd l1 x9_1)).f3).length c396_3] rfl (by (try simp only [List.map_toArray, List.map_cons, List.map_nil]); first | done | rfl | (simp only [List.length_drop, List.length_take]; rfl)) ?_; (with_reducible refine (besomref09_joined.calls k1 _ _ ((rd_T25 l0 (rd l1 x9_1)).f3) t398 _ ?side1 ?side2 A17.out).mono ?_); (case side1 => exact Kd.C_below HR396_3.out (by repeat (first | (with_reducible first | exact HB.out | apply below_alloc | apply pw_below_drewN | apply below_drew1 | refine below_set ?_ GE397.out) | exact HB.out))); (case side2 => exact HC396_3.out); rintro e w' ⟨rfl, ⟨nd, rfl⟩⟩; refine ⟨_, rfl, ?_⟩))
                 go_roundg k1
                 case measure => have := HK1.out; omega
                 case rel => exact ⟨((((((x8_1 ++ ((rd_T25 l0 (rd l1 x9_1)).f0)) ++ (⟨#[58, 32]⟩ : ByteArray)) ++ ((rd_T25 l0 (rd l1 x9_1)).f5)) ++ (⟨#[32, 105, 102, 32]⟩ : ByteArray)) ++ t398) ++ (⟨#[10]⟩ : ByteArray)), (wrap64 (x9_1 + 1)), (by first | rfl | (simp; done) | (simp [*]; done)), (by first | rfl | (simp; done) | (simp [*]; done)), H', ⟨by have := HK1.out; omega⟩, ⟨by repeat (first | (with_reducible first | exact HB.out | apply below_alloc | apply pw_below_drewN | apply below_drew1 | refine below_set ?_ GE397.out) | exact HB.out)⟩⟩
                ·rw [if_neg c26] at H
                 exact absurd H (by simp)
              ·rw [if_neg c18] at H
               exact absurd H (by simp)
             ·rw [if_neg c16] at H
              exact absurd H (by simp)
            ·rw [if_neg c15] at H
             have c15b0 : decide (0 < (((rd_T25 l0 (rd l1 x9_1)).f3).length : Int)) = false := decide_eq_false c15
             have c15b1 : decide (0 < ((rd_T25 l0 (rd l1 x9_1)).f3).length) = false := decide_eq_false (by omega)
             clear c15
             by_cases c29 : (((rd_T25 l0 (rd l1 x9_1)).f4).length : Int) > 0
             ·rw [if_pos c29] at H
              have c29b0 : decide (0 < (((rd_T25 l0 (rd l1 x9_1)).f4).length : Int)) = true := decide_eq_true c29
              have c29b1 : decide (0 < ((rd_T25 l0 (rd l1 x9_1)).f4).length) = true := decide_eq_true (by omega)
              clear c29
              by_cases c30 : (((x8_1 ++ ((rd_T25 l0 (rd l1 x9_1)).f0)) ++ (⟨#[58, 32]⟩ : ByteArray)) ++ ((rd_T25 l0 (rd l1 x9_1)).f5)).size + 8 ≤ 9223372036854775807
              ·rw [if_pos c30] at H
               have c30b0 := eq_true c30
               have c30b1 : decide ((((x8_1 ++ ((rd_T25 l0 (rd l1 x9_1)).f0)) ++ (⟨#[58, 32]⟩ : ByteArray)) ++ ((rd_T25 l0 (rd l1 x9_1)).f5)).size + 8 ≤ 9223372036854775807) = true := decide_eq_true c30
               try have c30b2 : (9223372036854775807 < (((x8_1 ++ ((rd_T25 l0 (rd l1 x9_1)).f0)) ++ (⟨#[58, 32]⟩ : ByteArray)) ++ ((rd_T25 l0 (rd l1 x9_1)).f5)).size + 8) = False := eq_false (Nat.not_lt.2 c30)
               try (have c30b3x := c30b2; simp only [ByteArray.size_append, show (⟨#[58, 32]⟩ : ByteArray).size = 2 from rfl, show (⟨#[32, 105, 102, 32]⟩ : ByteArray).size = 4 from rfl, show (⟨#[32, 117, 110, 108, 101, 115, 115, 32]⟩ : ByteArray).size = 8 from rfl, show (⟨#[10]⟩ : ByteArray).size = 1 from rfl] at c30b3x)
               replace H := Option.bind_eq_some_iff.mp H
               obtain ⟨t400, A310, H⟩ := H
               replace H : (if ((((x8_1 ++ ((rd_T25 l0 (rd l1 x9_1)).f0)) ++ (⟨#[58, 32]⟩ : ByteArray)) ++ ((rd_T25 l0 (rd l1 x9_1)).f5)) ++ (⟨#[32, 117, 110, 108, 101, 115, 115, 32]⟩ : ByteArray)).size + t400.size ≤ 9223372036854775807 then (if (((((x8_1 ++ ((rd_T25 l0 (rd l1 x9_1)).f0)) ++ (⟨#[58, 32]⟩ : ByteArray)) ++ ((rd_T25 l0 (rd l1 x9_1)).f5)) ++ (⟨#[32, 117, 110, 108, 101, 115, 115, 32]⟩ : ByteArray)) ++ t400).size + 1 ≤ 9223372036854775807 then (besomref09_Text.l0 k1 l0 l1 ((((((x8_1 ++ ((rd_T25 l0 (rd l1 x9_1)).f0)) ++ (⟨#[58, 32]⟩ : ByteArray)) ++ ((rd_T25 l0 (rd l1 x9_1)).f5)) ++ (⟨#[32, 117, 110, 108, 101, 115, 115, 32]⟩ : ByteArray)) ++ t400) ++ (⟨#[10]⟩ : ByteArray)) (wrap64 (x9_1 + 1))) else (none)) else (none)) = some (r1, r2) := H
               have A31 := Aside0.mk A310
               clear A310
               by_cases c32 : ((((x8_1 ++ ((rd_T25 l0 (rd l1 x9_1)).f0)) ++ (⟨#[58, 32]⟩ : ByteArray)) ++ ((rd_T25 l0 (rd l1 x9_1)).f5)) ++ (⟨#[32, 117, 110, 108, 101, 115, 115, 32]⟩ : ByteArray)).size + t400.size ≤ 9223372036854775807
               ·rw [if_pos c32] at H
                have c32b0 := eq_true c32
                have c32b1 : decide (((((x8_1 ++ ((rd_T25 l0 (rd l1 x9_1)).f0)) ++ (⟨#[58, 32]⟩ : ByteArray)) ++ ((rd_T25 l0 (rd l1 x9_1)).f5)) ++ (⟨#[32, 117, 110, 108, 101, 115, 115, 32]⟩ : ByteArray)).size + t400.size ≤ 9223372036854775807) = true := decide_eq_true c32
                try have c32b2 : (9223372036854775807 < ((((x8_1 ++ ((rd_T25 l0 (rd l1 x9_1)).f0)) ++ (⟨#[58, 32]⟩ : ByteArray)) ++ ((rd_T25 l0 (rd l1 x9_1)).f5)) ++ (⟨#[32, 117, 110, 108, 101, 115, 115, 32]⟩ : ByteArray)).size + t400.size) = False := eq_false (Nat.not_lt.2 c32)
                try (have c32b3x := c32b2; simp only [ByteArray.size_append, show (⟨#[58, 32]⟩ : ByteArray).size = 2 from rfl, show (⟨#[32, 105, 102, 32]⟩ : ByteArray).size = 4 from rfl, show (⟨#[32, 117, 110, 108, 101, 115, 115, 32]⟩ : ByteArray).size = 8 from rfl, show (⟨#[10]⟩ : ByteArray).size = 1 from rfl] at c32b3x)
                by_cases c33 : (((((x8_1 ++ ((rd_T25 l0 (rd l1 x9_1)).f0)) ++ (⟨#[58, 32]⟩ : ByteArray)) ++ ((rd_T25 l0 (rd l1 x9_1)).f5)) ++ (⟨#[32, 117, 110, 108, 101, 115, 115, 32]⟩ : ByteArray)) ++ t400).size + 1 ≤ 9223372036854775807
                ·rw [if_pos c33] at H
                 have c33b0 := eq_true c33
                 have c33b1 : decide ((((((x8_1 ++ ((rd_T25 l0 (rd l1 x9_1)).f0)) ++ (⟨#[58, 32]⟩ : ByteArray)) ++ ((rd_T25 l0 (rd l1 x9_1)).f5)) ++ (⟨#[32, 117, 110, 108, 101, 115, 115, 32]⟩ : ByteArray)) ++ t400).size + 1 ≤ 9223372036854775807) = true := decide_eq_true c33
                 try have c33b2 : (9223372036854775807 < (((((x8_1 ++ ((rd_T25 l0 (rd l1 x9_1)).f0)) ++ (⟨#[58, 32]⟩ : ByteArray)) ++ ((rd_T25 l0 (rd l1 x9_1)).f5)) ++ (⟨#[32, 117, 110, 108, 101, 115, 115, 32]⟩ : ByteArray)) ++ t400).size + 1) = False := eq_false (Nat.not_lt.2 c33)
                 try (have c33b3x := c33b2; simp only [ByteArray.size_append, show (⟨#[58, 32]⟩ : ByteArray).size = 2 from rfl, show (⟨#[32, 105, 102, 32]⟩ : ByteArray).size = 4 from rfl, show (⟨#[32, 117, 110, 108, 101, 115, 115, 32]⟩ : ByteArray).size = 8 from rfl, show (⟨#[10]⟩ : ByteArray).size = 1 from rfl] at c33b3x)
                 have H' := Aside0.mk H
                 clear H
                 have p395 : 0 ≤ (x9_1 : Int) := of_decide_eq_true (by first | (with_reducible assumption) | assumption)
                 have q395 : x9_1 < (l1.length : Int) := of_decide_eq_true (by first | (with_reducible assumption) | assumption)
                 obtain ⟨ad395, e395, hx395_0⟩ := Kd.at_int HR1.out x9_1 p395 q395
                 cases e395
                 replace hx395_0 := (HB.out.cell (World.block_lt_of_cell? w _ hx395_0)).trans hx395_0
                 replace p395 := eq_true p395
                 replace q395 := eq_true q395
                 have p396 : 0 ≤ ((rd l1 x9_1) : Int) := of_decide_eq_true (by first | (with_reducible assumption) | assumption)
                 have q396 : (rd l1 x9_1) < (l0.length : Int) := of_decide_eq_true (by first | (with_reducible assumption) | assumption)
                 obtain ⟨ad396, A396_3, c396_3, A396_4, c396_4, e396, hx396_0, hx396_1, hx396_2, hx396_3, hx396_4, hx396_5, hl396_3, hi396_3, hl396_4, hi396_4⟩ := at_T25 HR0.out (rd l1 x9_1) p396 q396
                 cases e396
                 replace hx396_0 := (HB.out.cell (World.block_lt_of_cell? w _ hx396_0)).trans hx396_0
                 replace hx396_1 := (HB.out.cell (World.block_lt_of_cell? w _ hx396_1)).trans hx396_1
                 replace hx396_2 := (HB.out.cell (World.block_lt_of_cell? w _ hx396_2)).trans hx396_2
                 replace hx396_3 := (HB.out.cell (World.block_lt_of_cell? w _ hx396_3)).trans hx396_3
                 replace hx396_4 := (HB.out.cell (World.block_lt_of_cell? w _ hx396_4)).trans hx396_4
                 replace hx396_5 := (HB.out.cell (World.block_lt_of_cell? w _ hx396_5)).trans hx396_5
                 have HR396_3 := Aside0.mk hi396_3
                 have HC396_3 := Aside0.mk hl396_3
                 clear hi396_3 hl396_3
                 have HR396_4 := Aside0.mk hi396_4
                 have HC396_4 := Aside0.mk hl396_4
                 clear hi396_4 hl396_4
                 replace p396 := eq_true p396
                 replace q396 := eq_true q396
                 go_wp2_with (first | ((with_reducible refine gate_dst (N := 10) rfl ?_); refine box_event ?hg (N := 10) ?hd (cs := #[.string (⟨#[]⟩ : ByteArray), .int .i64 0, .int .i64 0, .slice none 0 0, .slice none 0 0, .string (⟨#[]⟩ : ByteArray)]) (t := 25) ?hr ?_; (case hd => rfl); (case hg => rfl); (case hr => first | (go_simp; done) | (go_simp; rfl)); intro gb397 hg w34 hbox hb; have n0_ := Aside0.mk (below_step (by repeat (first | (with_reducible first | exact HB.out | apply below_alloc | apply pw_below_drewN | apply below_drew1) | exact HB.out)) hb); have n1_ := Aside0.mk (hbox); have n2_ := Aside0.mk ((by rw [hg]; exact (below_size (by repeat (first | (with_reducible first | exact HB.out | apply below_alloc | apply pw_below_drewN | apply below_drew1) | exact HB.out))) : w.heap.size ≤ gb397)); have n3_ := Aside0.mk ((by rw [hg]; exact (below_size (by repeat (first | (with_reducible first | exact HB.out | apply below_alloc | apply pw_below_drewN | apply below_drew1) | exact HB.out))) : w.heap.size ≤ gb397)); clear HB; have HB := n0_; have BK397 := n1_; have GW397 := n2_; have GE397 := n3_; clear n0_ n1_ n2_ n3_; clear hb hbox hg; have hcz35_0 : w34.cell? ⟨gb397, 0, none⟩ = some (.string (⟨#[]⟩ : ByteArray)) := (blk_cell BK397.out 0).trans rfl; have hcz35_1 : w34.cell? ⟨gb397, 1, none⟩ = some (.int .i64 0) := (blk_cell BK397.out 1).trans rfl; have hcz35_2 : w34.cell? ⟨gb397, 2, none⟩ = some (.int .i64 0) := (blk_cell BK397.out 2).trans rfl; have hcz35_3 : w34.cell? ⟨gb397, 3, none⟩ = some (.slice none 0 0) := (blk_cell BK397.out 3).trans rfl; have hcz35_4 : w34.cell? ⟨gb397, 4, none⟩ = some (.slice none 0 0) := (blk_cell BK397.out 4).trans rfl; have hcz35_5 : w34.cell? ⟨gb397, 5, none⟩ = some (.string (⟨#[]⟩ : ByteArray)) := (blk_cell BK397.out 5).trans rfl; have hfz35_0 := blk_frozen BK397.out 0; have hfz35_1 := blk_frozen BK397.out 1; have hfz35_2 := blk_frozen BK397.out 2; have hfz35_3 := blk_frozen BK397.out 3; have hfz35_4 := blk_frozen BK397.out 4; have hfz35_5 := blk_frozen BK397.out 5) | ((with_reducible refine gate_callee (f := 68) rfl ?_); refine goesL_ (some 62) rfl rfl Tryz.func68 (by kernel_rfl) rfl #[.slice A396_4 ((rd_T25 l0 (rd l1 x9_1)).f4).length c396_4] rfl (by (try simp only [List.map_toArray, List.map_cons, List.map_nil]); first | done | rfl | (simp only [List.length_drop, List.length_take]; rfl)) ?_; (with_reducible refine (besomref09_joined.calls k1 _ _ ((rd_T25 l0 (rd l1 x9_1)).f4) t400 _ ?side1 ?side2 A31.out).mono ?_); (case side1 => exact Kd.C_below HR396_4.out (by repeat (first | (with_reducible first | exact HB.out | apply below_alloc | apply pw_below_drewN | apply below_drew1 | refine below_set ?_ GE397.out) | exact HB.out))); (case side2 => exact HC396_4.out); rintro e w' ⟨rfl, ⟨nd, rfl⟩⟩; refine ⟨_, rfl, ?_⟩))
                 go_roundg k1
                 case measure => have := HK1.out; omega
                 case rel => exact ⟨((((((x8_1 ++ ((rd_T25 l0 (rd l1 x9_1)).f0)) ++ (⟨#[58, 32]⟩ : ByteArray)) ++ ((rd_T25 l0 (rd l1 x9_1)).f5)) ++ (⟨#[32, 117, 110, 108, 101, 115, 115, 32]⟩ : ByteArray)) ++ t400) ++ (⟨#[10]⟩ : ByteArray)), (wrap64 (x9_1 + 1)), (by first | rfl | (simp; done) | (simp [*]; done)), (by first | rfl | (simp; done) | (simp [*]; done)), H', ⟨by have := HK1.out; omega⟩, ⟨by repeat (first | (with_reducible first | exact HB.out | apply below_alloc | apply pw_below_drewN | apply below_drew1 | refine below_set ?_ GE397.out) | exact HB.out)⟩⟩
                ·rw [if_neg c33] at H
                 exact absurd H (by simp)
               ·rw [if_neg c32] at H
                exact absurd H (by simp)
              ·rw [if_neg c30] at H
               exact absurd H (by simp)
             ·rw [if_neg c29] at H
              have c29b0 : decide (0 < (((rd_T25 l0 (rd l1 x9_1)).f4).length : Int)) = false := decide_eq_false c29
              have c29b1 : decide (0 < ((rd_T25 l0 (rd l1 x9_1)).f4).length) = false := decide_eq_false (by omega)
              clear c29
              by_cases c36 : (((x8_1 ++ ((rd_T25 l0 (rd l1 x9_1)).f0)) ++ (⟨#[58, 32]⟩ : ByteArray)) ++ ((rd_T25 l0 (rd l1 x9_1)).f5)).size + 1 ≤ 9223372036854775807
              ·rw [if_pos c36] at H
               have c36b0 := eq_true c36
               have c36b1 : decide ((((x8_1 ++ ((rd_T25 l0 (rd l1 x9_1)).f0)) ++ (⟨#[58, 32]⟩ : ByteArray)) ++ ((rd_T25 l0 (rd l1 x9_1)).f5)).size + 1 ≤ 9223372036854775807) = true := decide_eq_true c36
               try have c36b2 : (9223372036854775807 < (((x8_1 ++ ((rd_T25 l0 (rd l1 x9_1)).f0)) ++ (⟨#[58, 32]⟩ : ByteArray)) ++ ((rd_T25 l0 (rd l1 x9_1)).f5)).size + 1) = False := eq_false (Nat.not_lt.2 c36)
               try (have c36b3x := c36b2; simp only [ByteArray.size_append, show (⟨#[58, 32]⟩ : ByteArray).size = 2 from rfl, show (⟨#[32, 105, 102, 32]⟩ : ByteArray).size = 4 from rfl, show (⟨#[32, 117, 110, 108, 101, 115, 115, 32]⟩ : ByteArray).size = 8 from rfl, show (⟨#[10]⟩ : ByteArray).size = 1 from rfl] at c36b3x)
               have H' := Aside0.mk H
               clear H
               have p395 : 0 ≤ (x9_1 : Int) := of_decide_eq_true (by first | (with_reducible assumption) | assumption)
               have q395 : x9_1 < (l1.length : Int) := of_decide_eq_true (by first | (with_reducible assumption) | assumption)
               obtain ⟨ad395, e395, hx395_0⟩ := Kd.at_int HR1.out x9_1 p395 q395
               cases e395
               replace hx395_0 := (HB.out.cell (World.block_lt_of_cell? w _ hx395_0)).trans hx395_0
               replace p395 := eq_true p395
               replace q395 := eq_true q395
               have p396 : 0 ≤ ((rd l1 x9_1) : Int) := of_decide_eq_true (by first | (with_reducible assumption) | assumption)
               have q396 : (rd l1 x9_1) < (l0.length : Int) := of_decide_eq_true (by first | (with_reducible assumption) | assumption)
               obtain ⟨ad396, A396_3, c396_3, A396_4, c396_4, e396, hx396_0, hx396_1, hx396_2, hx396_3, hx396_4, hx396_5, hl396_3, hi396_3, hl396_4, hi396_4⟩ := at_T25 HR0.out (rd l1 x9_1) p396 q396
               cases e396
               replace hx396_0 := (HB.out.cell (World.block_lt_of_cell? w _ hx396_0)).trans hx396_0
               replace hx396_1 := (HB.out.cell (World.block_lt_of_cell? w _ hx396_1)).trans hx396_1
               replace hx396_2 := (HB.out.cell (World.block_lt_of_cell? w _ hx396_2)).trans hx396_2
               replace hx396_3 := (HB.out.cell (World.block_lt_of_cell? w _ hx396_3)).trans hx396_3
               replace hx396_4 := (HB.out.cell (World.block_lt_of_cell? w _ hx396_4)).trans hx396_4
               replace hx396_5 := (HB.out.cell (World.block_lt_of_cell? w _ hx396_5)).trans hx396_5
               have HR396_3 := Aside0.mk hi396_3
               have HC396_3 := Aside0.mk hl396_3
               clear hi396_3 hl396_3
               have HR396_4 := Aside0.mk hi396_4
               have HC396_4 := Aside0.mk hl396_4
               clear hi396_4 hl396_4
               replace p396 := eq_true p396
               replace q396 := eq_true q396
               go_wp2_with (first | ((with_reducible refine gate_dst (N := 10) rfl ?_); refine box_event ?hg (N := 10) ?hd (cs := #[.string (⟨#[]⟩ : ByteArray), .int .i64 0, .int .i64 0, .slice none 0 0, .slice none 0 0, .string (⟨#[]⟩ : ByteArray)]) (t := 25) ?hr ?_; (case hd => rfl); (case hg => rfl); (case hr => first | (go_simp; done) | (go_simp; rfl)); intro gb397 hg w37 hbox hb; have n0_ := Aside0.mk (below_step (by repeat (first | (with_reducible first | exact HB.out | apply below_alloc | apply pw_below_drewN | apply below_drew1) | exact HB.out)) hb); have n1_ := Aside0.mk (hbox); have n2_ := Aside0.mk ((by rw [hg]; exact (below_size (by repeat (first | (with_reducible first | exact HB.out | apply below_alloc | apply pw_below_drewN | apply below_drew1) | exact HB.out))) : w.heap.size ≤ gb397)); have n3_ := Aside0.mk ((by rw [hg]; exact (below_size (by repeat (first | (with_reducible first | exact HB.out | apply below_alloc | apply pw_below_drewN | apply below_drew1) | exact HB.out))) : w.heap.size ≤ gb397)); clear HB; have HB := n0_; have BK397 := n1_; have GW397 := n2_; have GE397 := n3_; clear n0_ n1_ n2_ n3_; clear hb hbox hg; have hcz38_0 : w37.cell? ⟨gb397, 0, none⟩ = some (.string (⟨#[]⟩ : ByteArray)) := (blk_cell BK397.out 0).trans rfl; have hcz38_1 : w37.cell? ⟨gb397, 1, none⟩ = some (.int .i64 0) := (blk_cell BK397.out 1).trans rfl; have hcz38_2 : w37.cell? ⟨gb397, 2, none⟩ = some (.int .i64 0) := (blk_cell BK397.out 2).trans rfl; have hcz38_3 : w37.cell? ⟨gb397, 3, none⟩ = some (.slice none 0 0) := (blk_cell BK397.out 3).trans rfl; have hcz38_4 : w37.cell? ⟨gb397, 4, none⟩ = some (.slice none 0 0) := (blk_cell BK397.out 4).trans rfl; have hcz38_5 : w37.cell? ⟨gb397, 5, none⟩ = some (.string (⟨#[]⟩ : ByteArray)) := (blk_cell BK397.out 5).trans rfl; have hfz38_0 := blk_frozen BK397.out 0; have hfz38_1 := blk_frozen BK397.out 1; have hfz38_2 := blk_frozen BK397.out 2; have hfz38_3 := blk_frozen BK397.out 3; have hfz38_4 := blk_frozen BK397.out 4; have hfz38_5 := blk_frozen BK397.out 5))
               go_roundg k1
               case measure => have := HK1.out; omega
               case rel => exact ⟨((((x8_1 ++ ((rd_T25 l0 (rd l1 x9_1)).f0)) ++ (⟨#[58, 32]⟩ : ByteArray)) ++ ((rd_T25 l0 (rd l1 x9_1)).f5)) ++ (⟨#[10]⟩ : ByteArray)), (wrap64 (x9_1 + 1)), (by first | rfl | (simp; done) | (simp [*]; done)), (by first | rfl | (simp; done) | (simp [*]; done)), H', ⟨by have := HK1.out; omega⟩, ⟨by repeat (first | (with_reducible first | exact HB.out | apply below_alloc | apply pw_below_drewN | apply below_drew1 | refine below_set ?_ GE397.out) | exact HB.out)⟩⟩
              ·rw [if_neg c36] at H
               exact absurd H (by simp)
           ·rw [if_neg c14] at H
            exact absurd H (by simp)
          ·rw [if_neg c13] at H
           exact absurd H (by simp)
         ·rw [if_neg c12] at H
          exact absurd H (by simp)
        ·rw [if_neg c11] at H
         exact absurd H (by simp)
       ·rw [if_neg c10] at H
        exact absurd H (by simp)
      ·rw [if_neg c9] at H
       exact absurd H (by simp)
     ·rw [if_neg c8] at H
      have c8b0 : decide (x9_1 < (l1.length : Int)) = false := decide_eq_false c8
      clear c8
      simp only [Option.some.injEq, Prod.mk.injEq] at H
      obtain ⟨rfl, rfl⟩ := H
      go_wp2
      go_ret2
      exact ⟨by first | rfl | (simp [errW_none, errW_some] <;> rfl) | (simp [*, errW_none, errW_some] <;> rfl), by repeat (first | (with_reducible first | exact HB.out | apply below_alloc | apply pw_below_drewN | apply below_drew1) | exact HB.out)⟩
  ·replace c6 := Bool.eq_false_iff.mpr c6
   subst c6
   have H1 : (some ((⟨#[]⟩ : ByteArray), 4)) = some (r1, r2) := by rw [if_neg (show ¬ (false = true) by decide)] at H; exact H
   clear H
   have H := H1
   clear H1
   simp only [Option.some.injEq, Prod.mk.injEq] at H
   obtain ⟨rfl, rfl⟩ := H
   go_enter Tryz.func35, Tryz.ntmps35
   go_wp2_with (first | ((with_reducible refine gate_callee (f := 13) rfl ?_); refine goesL_ (some 13) rfl rfl Tryz.func13 (by kernel_rfl) rfl #[.slice A0 l0.length c0] rfl (by (try simp only [List.map_toArray, List.map_cons, List.map_nil]); first | done | rfl | (simp only [List.length_drop, List.length_take]; rfl)) ?_; (with_reducible refine (besomref09_Check.calls _ _ l0 t392 t393 _ ?side1 ?side2 A3.out).mono ?_); (case side1 => repeat (first | exact HR0.out | (with_reducible refine Kd.C_alloc ?_ _) | (with_reducible refine Kd.C_drewN ?_ _) | (with_reducible refine Kd.C_drew ?_))); (case side2 => exact HC0.out); rintro e w39 ⟨rfl, hb⟩; refine ⟨_, rfl, ?_⟩; have n0_ := Aside0.mk (below_step (by repeat (first | (with_reducible first | exact HB.out | apply below_alloc | apply pw_below_drewN | apply below_drew1) | exact HB.out)) hb); clear HB; have HB := n0_; clear n0_; (try clear hb); (try clear hb2); (try clear hk); (try clear hi)) | ((with_reducible refine gate_callee (f := 63) rfl ?_); refine goesL_ (some 21) rfl rfl Tryz.func63 (by kernel_rfl) rfl #[.slice A0 l0.length c0, .slice A1 l1.length c1] rfl (by (try simp only [List.map_toArray, List.map_cons, List.map_nil]); first | done | rfl | (simp only [List.length_drop, List.length_take]; rfl)) ?_; (with_reducible refine (besomref09_indices.calls k _ _ l0 _ _ l1 false _ ?side1 ?side2 ?side3 ?side4 A5.out).mono ?_); (case side1 => repeat (first | exact (Kd.C_below HR0.out HB.out) | (with_reducible refine Kd.C_alloc ?_ _) | (with_reducible refine Kd.C_drewN ?_ _) | (with_reducible refine Kd.C_drew ?_))); (case side2 => exact HC0.out); (case side3 => repeat (first | exact (Kd.C_below HR1.out HB.out) | (with_reducible refine Kd.C_alloc ?_ _) | (with_reducible refine Kd.C_drewN ?_ _) | (with_reducible refine Kd.C_drew ?_))); (case side4 => exact HC1.out); rintro e w' ⟨rfl, ⟨nd, rfl⟩⟩; refine ⟨_, rfl, ?_⟩))
   go_ret2
   exact ⟨by first | rfl | (simp [errW_none, errW_some] <;> rfl) | (simp [*, errW_none, errW_some] <;> rfl), by repeat (first | (with_reducible first | exact HB.out | apply below_alloc | apply pw_below_drewN | apply below_drew1) | exact HB.out)⟩
 ·rw [if_neg c4] at H
  have c4b0 : (t393 == 0) = false := beq_eq_false_iff_ne.mpr c4
  have c4b1 : (t393 != 0) = true := bne_iff_ne.mpr c4
  simp only [Option.some.injEq, Prod.mk.injEq] at H
  obtain ⟨rfl, rfl⟩ := H
  go_enter Tryz.func35, Tryz.ntmps35
  go_wp2_with (first | ((with_reducible refine gate_callee (f := 13) rfl ?_); refine goesL_ (some 13) rfl rfl Tryz.func13 (by kernel_rfl) rfl #[.slice A0 l0.length c0] rfl (by (try simp only [List.map_toArray, List.map_cons, List.map_nil]); first | done | rfl | (simp only [List.length_drop, List.length_take]; rfl)) ?_; (with_reducible refine (besomref09_Check.calls _ _ l0 t392 t393 _ ?side1 ?side2 A3.out).mono ?_); (case side1 => repeat (first | exact HR0.out | (with_reducible refine Kd.C_alloc ?_ _) | (with_reducible refine Kd.C_drewN ?_ _) | (with_reducible refine Kd.C_drew ?_))); (case side2 => exact HC0.out); rintro e w40 ⟨rfl, hb⟩; refine ⟨_, rfl, ?_⟩; have n0_ := Aside0.mk (below_step (by repeat (first | (with_reducible first | exact HB.out | apply below_alloc | apply pw_below_drewN | apply below_drew1) | exact HB.out)) hb); clear HB; have HB := n0_; clear n0_; (try clear hb); (try clear hb2); (try clear hk); (try clear hi)))
  go_ret2
  exact ⟨by first | rfl | (simp [errW_none, errW_some] <;> rfl) | (simp [*, errW_none, errW_some] <;> rfl), by repeat (first | (with_reducible first | exact HB.out | apply below_alloc | apply pw_below_drewN | apply below_drew1) | exact HB.out)⟩
def besomlaw09_ProtestProofs.j0 : Nat → List (S25) → Int → List ByteArray → List Int → ByteArray → Bool → Option (Bool)
 | 0, _, _, _, _, _, _ => none
 | k + 1, x0, x1, x2, x3, x4, x33 => if x33 = true then ((besomlaw09_awake.f).bind fun t402 => (some t402)) else ((protest_Proves.f x0 x1 x2 x3 x4).bind fun bt403 => ((besomref09_Proves.f k x0 x1 x2 x3 x4).bind fun bt406 => ((protest_Text.f x0 x3).bind fun bt409 => ((besomref09_Text.f k x0 x3).bind fun bt411 => (if (bt403.1 == bt406.1) = true then (if bt403.2.1 = bt406.2.1 then (if bt403.2.2 = bt406.2.2 then (if bt409.1.toList = bt411.1.toList then (if bt409.2 = bt411.2 then ((besomlaw09_awake.f).bind fun t413 => (some t413)) else (some false)) else (some false)) else (some false)) else (some false)) else (some false))))))
def besomlaw09_ProtestProofs.f (k : Nat) (l0 : List (S25)) (a1 : Int) (l2 : List ByteArray) (l3 : List Int) (a4 : ByteArray) : Option (Bool) := (besomlaw09_great.f k l0 l2).bind fun t401 => (if t401 = true then (besomlaw09_ProtestProofs.j0 k l0 a1 l2 l3 a4 true) else (if (a4.size : Int) > 100 then (besomlaw09_ProtestProofs.j0 k l0 a1 l2 l3 a4 true) else (besomlaw09_ProtestProofs.j0 k l0 a1 l2 l3 a4 (decide ((l3.length : Int) > 100)))))
set_option maxHeartbeats 8000000 in
set_option maxRecDepth 100000 in
theorem besomlaw09_ProtestProofs.calls (k : Nat) (A0 : Option Addr) (c0 : Nat) (l0 : List (S25)) (a1 : Int) (A2 : Option Addr) (c2 : Nat) (l2 : List ByteArray) (A3 : Option Addr) (c3 : Nat) (l3 : List Int) (a4 : ByteArray) (r : Bool) (w : World) (hr0 : Kd.C k25 w A0 l0.length l0) (hc0 : l0.length ≤ c0) (hr2 : Kd.C Kd.string w A2 l2.length l2) (hc2 : l2.length ≤ c2) (hr3 : Kd.C (Kd.int .i64) w A3 l3.length l3) (hc3 : l3.length ≤ c3) (h : besomlaw09_ProtestProofs.f k l0 a1 l2 l3 a4 = some r) :
  Calls Tryz.prog 8 #[.slice A0 l0.length c0, .int .i64 a1, .slice A2 l2.length c2, .slice A3 l3.length c3, .string a4] w fun e w' => e = .returned (.bool r) ∧ Below w.heap.size w w' := by
 have HR0 := Aside0.mk hr0
 have HC0 := Aside0.mk hc0
 clear hr0 hc0
 have HR2 := Aside0.mk hr2
 have HC2 := Aside0.mk hc2
 clear hr2 hc2
 have HR3 := Aside0.mk hr3
 have HC3 := Aside0.mk hc3
 clear hr3 hc3
 have HB := Aside0.mk (Below.refl w.heap.size w)
 have H : ((besomlaw09_great.f k l0 l2).bind fun t401 => (if t401 = true then (besomlaw09_ProtestProofs.j0 k l0 a1 l2 l3 a4 true) else (if (a4.size : Int) > 100 then (besomlaw09_ProtestProofs.j0 k l0 a1 l2 l3 a4 true) else (besomlaw09_ProtestProofs.j0 k l0 a1 l2 l3 a4 (decide ((l3.length : Int) > 100)))))) = some r := h
 clear h
 have HC6 := Aside0.mk H
 clear H
 go_enter Tryz.func8, Tryz.ntmps8
 go_upto_region 1 with (fail)
 go_cut [33] (fun v33 wc => ∃ (kq : Nat) (x33_5 : Bool), v33 = .bool x33_5 ∧ Aside0 (besomlaw09_ProtestProofs.j0 kq l0 a1 l2 l3 a4 x33_5 = some r) ∧ Aside0 (kq ≤ k) ∧ Aside0 (Below w.heap.size w wc))
 case first =>
  have H := HC6.out
  clear HC6
  replace H := Option.bind_eq_some_iff.mp H
  obtain ⟨t401, A70, H⟩ := H
  replace H : (if t401 = true then (besomlaw09_ProtestProofs.j0 k l0 a1 l2 l3 a4 true) else (if (a4.size : Int) > 100 then (besomlaw09_ProtestProofs.j0 k l0 a1 l2 l3 a4 true) else (besomlaw09_ProtestProofs.j0 k l0 a1 l2 l3 a4 (decide ((l3.length : Int) > 100))))) = some r := H
  have A7 := Aside0.mk A70
  clear A70
  by_cases c8 : t401 = true
  ·subst c8
   have H1 : (besomlaw09_ProtestProofs.j0 k l0 a1 l2 l3 a4 true) = some r := by rw [if_pos rfl] at H; exact H
   clear H
   have H := H1
   clear H1
   have H' := Aside0.mk H
   clear H
   go_wp2_with (first | ((with_reducible refine gate_callee (f := 10) rfl ?_); refine goesL_ (some 23) rfl rfl Tryz.func10 (by kernel_rfl) rfl #[.slice A0 l0.length c0, .slice A2 l2.length c2] rfl (by (try simp only [List.map_toArray, List.map_cons, List.map_nil]); first | done | rfl | (simp only [List.length_drop, List.length_take]; rfl)) ?_; (with_reducible refine (besomlaw09_great.calls k _ _ l0 _ _ l2 true _ ?side1 ?side2 ?side3 ?side4 A7.out).mono ?_); (case side1 => repeat (first | exact (Kd.C_below HR0.out HB.out) | (with_reducible refine Kd.C_alloc ?_ _) | (with_reducible refine Kd.C_drewN ?_ _) | (with_reducible refine Kd.C_drew ?_))); (case side2 => exact HC0.out); (case side3 => repeat (first | exact (Kd.C_below HR2.out HB.out) | (with_reducible refine Kd.C_alloc ?_ _) | (with_reducible refine Kd.C_drewN ?_ _) | (with_reducible refine Kd.C_drew ?_))); (case side4 => exact HC2.out); rintro e w' ⟨rfl, ⟨nd, rfl⟩⟩; refine ⟨_, rfl, ?_⟩))
   go_meet
   case rel => exact ⟨_, (true), (by first | rfl | (simp; done) | (simp [*]; done)), H', ⟨by first | omega | exact Nat.le_refl _⟩, ⟨by repeat (first | (with_reducible first | exact HB.out | apply below_alloc | apply pw_below_drewN | apply below_drew1) | exact HB.out)⟩⟩
  ·replace c8 := Bool.eq_false_iff.mpr c8
   subst c8
   have H1 : (if (a4.size : Int) > 100 then (besomlaw09_ProtestProofs.j0 k l0 a1 l2 l3 a4 true) else (besomlaw09_ProtestProofs.j0 k l0 a1 l2 l3 a4 (decide ((l3.length : Int) > 100)))) = some r := by rw [if_neg (show ¬ (false = true) by decide)] at H; exact H
   clear H
   have H := H1
   clear H1
   by_cases c9 : (a4.size : Int) > 100
   ·rw [if_pos c9] at H
    have c9b0 : decide (100 < (a4.size : Int)) = true := decide_eq_true c9
    have c9b1 : decide (100 < a4.size) = true := decide_eq_true (by omega)
    clear c9
    (first | rw [c9b0] | (simp only [i64_w, i32_w]; rw [c9b0]) | skip)
    have H' := Aside0.mk H
    clear H
    go_wp2_with (first | ((with_reducible refine gate_callee (f := 10) rfl ?_); refine goesL_ (some 23) rfl rfl Tryz.func10 (by kernel_rfl) rfl #[.slice A0 l0.length c0, .slice A2 l2.length c2] rfl (by (try simp only [List.map_toArray, List.map_cons, List.map_nil]); first | done | rfl | (simp only [List.length_drop, List.length_take]; rfl)) ?_; (with_reducible refine (besomlaw09_great.calls k _ _ l0 _ _ l2 false _ ?side1 ?side2 ?side3 ?side4 A7.out).mono ?_); (case side1 => repeat (first | exact (Kd.C_below HR0.out HB.out) | (with_reducible refine Kd.C_alloc ?_ _) | (with_reducible refine Kd.C_drewN ?_ _) | (with_reducible refine Kd.C_drew ?_))); (case side2 => exact HC0.out); (case side3 => repeat (first | exact (Kd.C_below HR2.out HB.out) | (with_reducible refine Kd.C_alloc ?_ _) | (with_reducible refine Kd.C_drewN ?_ _) | (with_reducible refine Kd.C_drew ?_))); (case side4 => exact HC2.out); rintro e w' ⟨rfl, ⟨nd, rfl⟩⟩; refine ⟨_, rfl, ?_⟩))
    go_meet
    case rel => exact ⟨_, (true), (by first | rfl | (simp; done) | (simp [*]; done)), H', ⟨by first | omega | exact Nat.le_refl _⟩, ⟨by repeat (first | (with_reducible first | exact HB.out | apply below_alloc | apply pw_below_drewN | apply below_drew1) | exact HB.out)⟩⟩
   ·rw [if_neg c9] at H
    have c9b0 : decide (100 < (a4.size : Int)) = false := decide_eq_false c9
    have c9b1 : decide (100 < a4.size) = false := decide_eq_false (by omega)
    clear c9
    (first | rw [c9b0] | (simp only [i64_w, i32_w]; rw [c9b0]) | skip)
    have H' := Aside0.mk H
    clear H
    go_wp2_with (first | ((with_reducible refine gate_callee (f := 10) rfl ?_); refine goesL_ (some 23) rfl rfl Tryz.func10 (by kernel_rfl) rfl #[.slice A0 l0.length c0, .slice A2 l2.length c2] rfl (by (try simp only [List.map_toArray, List.map_cons, List.map_nil]); first | done | rfl | (simp only [List.length_drop, List.length_take]; rfl)) ?_; (with_reducible refine (besomlaw09_great.calls k _ _ l0 _ _ l2 false _ ?side1 ?side2 ?side3 ?side4 A7.out).mono ?_); (case side1 => repeat (first | exact (Kd.C_below HR0.out HB.out) | (with_reducible refine Kd.C_alloc ?_ _) | (with_reducible refine Kd.C_drewN ?_ _) | (with_reducible refine Kd.C_drew ?_))); (case side2 => exact HC0.out); (case side3 => repeat (first | exact (Kd.C_below HR2.out HB.out) | (with_reducible refine Kd.C_alloc ?_ _) | (with_reducible refine Kd.C_drewN ?_ _) | (with_reducible refine Kd.C_drew ?_))); (case side4 => exact HC2.out); rintro e w' ⟨rfl, ⟨nd, rfl⟩⟩; refine ⟨_, rfl, ?_⟩))
    go_meet
    case rel => exact ⟨_, (decide ((l3.length : Int) > 100)), (by first | rfl | (simp; done) | (simp [*]; done)), H', ⟨by first | omega | exact Nat.le_refl _⟩, ⟨by repeat (first | (with_reducible first | exact HB.out | apply below_alloc | apply pw_below_drewN | apply below_drew1) | exact HB.out)⟩⟩
 case rest =>
  clear HC6
  try clear c1
  try clear c2
  try clear p2
  try clear c3
  try clear c8
  try clear c9
  try clear c9b0
  try clear c9b1
  obtain ⟨kq, x33_5, rfl, HA, HJ5, HB⟩ := hcut
  cases kq with
  | zero => exact absurd HA.out (by simp [besomlaw09_ProtestProofs.j0])
  | succ kj5 =>
   have H := HA.out
   clear HA
   simp only [besomlaw09_ProtestProofs.j0] at H
   by_cases c10 : x33_5 = true
   ·subst c10
    have H1 : ((besomlaw09_awake.f).bind fun t402 => (some t402)) = some r := by rw [if_pos rfl] at H; exact H
    clear H
    have H := H1
    clear H1
    replace H := Option.bind_eq_some_iff.mp H
    obtain ⟨t402, A110, H⟩ := H
    replace H : (some t402) = some r := H
    have A11 := Aside0.mk A110
    clear A110
    obtain rfl := Option.some.inj H
    go_wp2_with (first | ((with_reducible refine gate_callee (f := 11) rfl ?_); refine goesL_ (some 34) rfl rfl Tryz.func11 (by kernel_rfl) rfl #[] rfl (by (try simp only [List.map_toArray, List.map_cons, List.map_nil]); first | done | rfl | (simp only [List.length_drop, List.length_take]; rfl)) ?_; (with_reducible refine (besomlaw09_awake.calls  t402 _ A11.out).mono ?_); rintro e w12 ⟨rfl, hb⟩; refine ⟨_, rfl, ?_⟩; have n0_ := Aside0.mk (below_step (by repeat (first | (with_reducible first | exact HB.out | apply below_alloc | apply pw_below_drewN | apply below_drew1) | exact HB.out)) hb); clear HB; have HB := n0_; clear n0_; (try clear hb); (try clear hb2); (try clear hk); (try clear hi)))
    go_ret
    exact ⟨by first | rfl | (simp [errW_none, errW_some] <;> rfl) | (simp [*, errW_none, errW_some] <;> rfl), by repeat (first | (with_reducible first | exact HB.out | apply below_alloc | apply pw_below_drewN | apply below_drew1) | exact HB.out)⟩
   ·replace c10 := Bool.eq_false_iff.mpr c10
    subst c10
    have H1 : ((protest_Proves.f l0 a1 l2 l3 a4).bind fun bt403 => ((besomref09_Proves.f kj5 l0 a1 l2 l3 a4).bind fun bt406 => ((protest_Text.f l0 l3).bind fun bt409 => ((besomref09_Text.f kj5 l0 l3).bind fun bt411 => (if (bt403.1 == bt406.1) = true then (if bt403.2.1 = bt406.2.1 then (if bt403.2.2 = bt406.2.2 then (if bt409.1.toList = bt411.1.toList then (if bt409.2 = bt411.2 then ((besomlaw09_awake.f).bind fun t413 => (some t413)) else (some false)) else (some false)) else (some false)) else (some false)) else (some false)))))) = some r := by rw [if_neg (show ¬ (false = true) by decide)] at H; exact H
    clear H
    have H := H1
    clear H1
    replace H := Option.bind_eq_some_iff.mp H
    obtain ⟨⟨t403, t404, t405⟩, A130, H⟩ := H
    replace H : ((besomref09_Proves.f kj5 l0 a1 l2 l3 a4).bind fun bt406 => ((protest_Text.f l0 l3).bind fun bt409 => ((besomref09_Text.f kj5 l0 l3).bind fun bt411 => (if (t403 == bt406.1) = true then (if t404 = bt406.2.1 then (if t405 = bt406.2.2 then (if bt409.1.toList = bt411.1.toList then (if bt409.2 = bt411.2 then ((besomlaw09_awake.f).bind fun t413 => (some t413)) else (some false)) else (some false)) else (some false)) else (some false)) else (some false))))) = some r := H
    have A13 := Aside0.mk A130
    clear A130
    replace H := Option.bind_eq_some_iff.mp H
    obtain ⟨⟨t406, t407, t408⟩, A140, H⟩ := H
    replace H : ((protest_Text.f l0 l3).bind fun bt409 => ((besomref09_Text.f kj5 l0 l3).bind fun bt411 => (if (t403 == t406) = true then (if t404 = t407 then (if t405 = t408 then (if bt409.1.toList = bt411.1.toList then (if bt409.2 = bt411.2 then ((besomlaw09_awake.f).bind fun t413 => (some t413)) else (some false)) else (some false)) else (some false)) else (some false)) else (some false)))) = some r := H
    have A14 := Aside0.mk A140
    clear A140
    replace H := Option.bind_eq_some_iff.mp H
    obtain ⟨⟨t409, t410⟩, A150, H⟩ := H
    replace H : ((besomref09_Text.f kj5 l0 l3).bind fun bt411 => (if (t403 == t406) = true then (if t404 = t407 then (if t405 = t408 then (if t409.toList = bt411.1.toList then (if t410 = bt411.2 then ((besomlaw09_awake.f).bind fun t413 => (some t413)) else (some false)) else (some false)) else (some false)) else (some false)) else (some false))) = some r := H
    have A15 := Aside0.mk A150
    clear A150
    replace H := Option.bind_eq_some_iff.mp H
    obtain ⟨⟨t411, t412⟩, A160, H⟩ := H
    replace H : (if (t403 == t406) = true then (if t404 = t407 then (if t405 = t408 then (if t409.toList = t411.toList then (if t410 = t412 then ((besomlaw09_awake.f).bind fun t413 => (some t413)) else (some false)) else (some false)) else (some false)) else (some false)) else (some false)) = some r := H
    have A16 := Aside0.mk A160
    clear A160
    by_cases c17 : (t403 == t406) = true
    ·rw [if_pos c17] at H
     have c17b0 : (t403 == t406) = true := c17
     (try (have c17b1 : decide (t403 = t406) = true := by simpa using c17))
     (try (have c17b2 : (t403 == t406) = true := by simpa using c17))
     clear c17
     by_cases c18 : t404 = t407
     ·rw [if_pos c18] at H
      have c18b0 : (t404 == t407) = true := beq_iff_eq.mpr c18
      have c18b1 : (t404 != t407) = false := bne_eq_false_iff_eq.mpr c18
      clear c18
      by_cases c19 : t405 = t408
      ·rw [if_pos c19] at H
       have c19b0 : (t405 == t408) = true := beq_iff_eq.mpr c19
       have c19b1 : (t405 != t408) = false := bne_eq_false_iff_eq.mpr c19
       clear c19
       by_cases c20 : t409.toList = t411.toList
       ·rw [if_pos c20] at H
        have c20b0 : (t409.toList == t411.toList) = true := beq_iff_eq.mpr c20
        have c20b1 : (t409.toList != t411.toList) = false := bne_eq_false_iff_eq.mpr c20
        clear c20
        by_cases c21 : t410 = t412
        ·rw [if_pos c21] at H
         have c21b0 : (t410 == t412) = true := beq_iff_eq.mpr c21
         have c21b1 : (t410 != t412) = false := bne_eq_false_iff_eq.mpr c21
         clear c21
         replace H := Option.bind_eq_some_iff.mp H
         obtain ⟨t413, A220, H⟩ := H
         replace H : (some t413) = some r := H
         have A22 := Aside0.mk A220
         clear A220
         obtain rfl := Option.some.inj H
         go_wp2_with (first | ((with_reducible refine gate_callee (f := 29) rfl ?_); refine goesL_ (some 41) rfl rfl Tryz.func29 (by kernel_rfl) rfl #[.slice A0 l0.length c0, .int .i64 a1, .slice A2 l2.length c2, .slice A3 l3.length c3, .string a4] rfl (by (try simp only [List.map_toArray, List.map_cons, List.map_nil]); first | done | rfl | (simp only [List.length_drop, List.length_take]; rfl)) ?_; (with_reducible refine (protest_Proves.calls _ _ l0 a1 _ _ l2 _ _ l3 a4 t403 t404 t405 _ ?side1 ?side2 ?side3 ?side4 ?side5 ?side6 A13.out).mono ?_); (case side1 => repeat (first | exact (Kd.C_below HR0.out HB.out) | (with_reducible refine Kd.C_alloc ?_ _) | (with_reducible refine Kd.C_drewN ?_ _) | (with_reducible refine Kd.C_drew ?_))); (case side2 => exact HC0.out); (case side3 => repeat (first | exact (Kd.C_below HR2.out HB.out) | (with_reducible refine Kd.C_alloc ?_ _) | (with_reducible refine Kd.C_drewN ?_ _) | (with_reducible refine Kd.C_drew ?_))); (case side4 => exact HC2.out); (case side5 => repeat (first | exact (Kd.C_below HR3.out HB.out) | (with_reducible refine Kd.C_alloc ?_ _) | (with_reducible refine Kd.C_drewN ?_ _) | (with_reducible refine Kd.C_drew ?_))); (case side6 => exact HC3.out); rintro e w23 ⟨rfl, hb⟩; refine ⟨_, rfl, ?_⟩; have n0_ := Aside0.mk (below_step (by repeat (first | (with_reducible first | exact HB.out | apply below_alloc | apply pw_below_drewN | apply below_drew1) | exact HB.out)) hb); clear HB; have HB := n0_; clear n0_; (try clear hb); (try clear hb2); (try clear hk); (try clear hi)) | ((with_reducible refine gate_callee (f := 33) rfl ?_); refine goesL_ (some 51) rfl rfl Tryz.func33 (by kernel_rfl) rfl #[.slice A0 l0.length c0, .int .i64 a1, .slice A2 l2.length c2, .slice A3 l3.length c3, .string a4] rfl (by (try simp only [List.map_toArray, List.map_cons, List.map_nil]); first | done | rfl | (simp only [List.length_drop, List.length_take]; rfl)) ?_; (with_reducible refine (besomref09_Proves.calls kj5 _ _ l0 a1 _ _ l2 _ _ l3 a4 t406 t407 t408 _ ?side1 ?side2 ?side3 ?side4 ?side5 ?side6 A14.out).mono ?_); (case side1 => repeat (first | exact (Kd.C_below HR0.out HB.out) | (with_reducible refine Kd.C_alloc ?_ _) | (with_reducible refine Kd.C_drewN ?_ _) | (with_reducible refine Kd.C_drew ?_))); (case side2 => exact HC0.out); (case side3 => repeat (first | exact (Kd.C_below HR2.out HB.out) | (with_reducible refine Kd.C_alloc ?_ _) | (with_reducible refine Kd.C_drewN ?_ _) | (with_reducible refine Kd.C_drew ?_))); (case side4 => exact HC2.out); (case side5 => repeat (first | exact (Kd.C_below HR3.out HB.out) | (with_reducible refine Kd.C_alloc ?_ _) | (with_reducible refine Kd.C_drewN ?_ _) | (with_reducible refine Kd.C_drew ?_))); (case side6 => exact HC3.out); rintro e w24 ⟨rfl, hb⟩; refine ⟨_, rfl, ?_⟩; have n0_ := Aside0.mk (below_step (by repeat (first | (with_reducible first | exact HB.out | apply below_alloc | apply pw_below_drewN | apply below_drew1) | exact HB.out)) hb); clear HB; have HB := n0_; clear n0_; (try clear hb); (try clear hb2); (try clear hk); (try clear hi)) | ((with_reducible refine gate_callee (f := 34) rfl ?_); refine goesL_ (some 58) rfl rfl Tryz.func34 (by kernel_rfl) rfl #[.slice A0 l0.length c0, .slice A3 l3.length c3] rfl (by (try simp only [List.map_toArray, List.map_cons, List.map_nil]); first | done | rfl | (simp only [List.length_drop, List.length_take]; rfl)) ?_; (with_reducible refine (protest_Text.calls _ _ l0 _ _ l3 t409 t410 _ ?side1 ?side2 ?side3 ?side4 A15.out).mono ?_); (case side1 => repeat (first | exact (Kd.C_below HR0.out HB.out) | (with_reducible refine Kd.C_alloc ?_ _) | (with_reducible refine Kd.C_drewN ?_ _) | (with_reducible refine Kd.C_drew ?_))); (case side2 => exact HC0.out); (case side3 => repeat (first | exact (Kd.C_below HR3.out HB.out) | (with_reducible refine Kd.C_alloc ?_ _) | (with_reducible refine Kd.C_drewN ?_ _) | (with_reducible refine Kd.C_drew ?_))); (case side4 => exact HC3.out); rintro e w25 ⟨rfl, hb⟩; refine ⟨_, rfl, ?_⟩; have n0_ := Aside0.mk (below_step (by repeat (first | (with_reducible first | exact HB.out | apply below_alloc | apply pw_below_drewN | apply below_drew1) | exact HB.out)) hb); clear HB; have HB := n0_; clear n0_; (try clear hb); (try clear hb2); (try clear hk); (try clear hi)) | ((with_reducible refine gate_callee (f := 35) rfl ?_); refine goesL_ (some 64) rfl rfl Tryz.func35 (by kernel_rfl) rfl #[.slice A0 l0.length c0, .slice A3 l3.length c3] rfl (by (try simp only [List.map_toArray, List.map_cons, List.map_nil]); first | done | rfl | (simp only [List.length_drop, List.length_take]; rfl)) ?_; (with_reducible refine (besomref09_Text.calls kj5 _ _ l0 _ _ l3 t411 t412 _ ?side1 ?side2 ?side3 ?side4 A16.out).mono ?_); (case side1 => repeat (first | exact (Kd.C_below HR0.out HB.out) | (with_reducible refine Kd.C_alloc ?_ _) | (with_reducible refine Kd.C_drewN ?_ _) | (with_reducible refine Kd.C_drew ?_))); (case side2 => exact HC0.out); (case side3 => repeat (first | exact (Kd.C_below HR3.out HB.out) | (with_reducible refine Kd.C_alloc ?_ _) | (with_reducible refine Kd.C_drewN ?_ _) | (with_reducible refine Kd.C_drew ?_))); (case side4 => exact HC3.out); rintro e w26 ⟨rfl, hb⟩; refine ⟨_, rfl, ?_⟩; have n0_ := Aside0.mk (below_step (by repeat (first | (with_reducible first | exact HB.out | apply below_alloc | apply pw_below_drewN | apply below_drew1) | exact HB.out)) hb); clear HB; have HB := n0_; clear n0_; (try clear hb); (try clear hb2); (try clear hk); (try clear hi)) | (go_at_call 11; (with_reducible refine (besomlaw09_awake.calls  t413 _ A22.out).mono ?_); rintro e w27 ⟨rfl, hb⟩; have n0_ := Aside0.mk (below_step (by repeat (first | (with_reducible first | exact HB.out | apply below_alloc | apply pw_below_drewN | apply below_drew1) | exact HB.out)) hb); clear HB; have HB := n0_; clear n0_; (try clear hb); (try clear hb2); (try clear hk); (try clear hi)))
         go_ret
         exact ⟨by first | rfl | (simp [errW_none, errW_some] <;> rfl) | (simp [*, errW_none, errW_some] <;> rfl), by repeat (first | (with_reducible first | exact HB.out | apply below_alloc | apply pw_below_drewN | apply below_drew1) | exact HB.out)⟩
        ·rw [if_neg c21] at H
         have c21b0 : (t410 == t412) = false := beq_eq_false_iff_ne.mpr c21
         have c21b1 : (t410 != t412) = true := bne_iff_ne.mpr c21
         obtain rfl := Option.some.inj H
         go_wp2_with (first | ((with_reducible refine gate_callee (f := 29) rfl ?_); refine goesL_ (some 41) rfl rfl Tryz.func29 (by kernel_rfl) rfl #[.slice A0 l0.length c0, .int .i64 a1, .slice A2 l2.length c2, .slice A3 l3.length c3, .string a4] rfl (by (try simp only [List.map_toArray, List.map_cons, List.map_nil]); first | done | rfl | (simp only [List.length_drop, List.length_take]; rfl)) ?_; (with_reducible refine (protest_Proves.calls _ _ l0 a1 _ _ l2 _ _ l3 a4 t403 t404 t405 _ ?side1 ?side2 ?side3 ?side4 ?side5 ?side6 A13.out).mono ?_); (case side1 => repeat (first | exact (Kd.C_below HR0.out HB.out) | (with_reducible refine Kd.C_alloc ?_ _) | (with_reducible refine Kd.C_drewN ?_ _) | (with_reducible refine Kd.C_drew ?_))); (case side2 => exact HC0.out); (case side3 => repeat (first | exact (Kd.C_below HR2.out HB.out) | (with_reducible refine Kd.C_alloc ?_ _) | (with_reducible refine Kd.C_drewN ?_ _) | (with_reducible refine Kd.C_drew ?_))); (case side4 => exact HC2.out); (case side5 => repeat (first | exact (Kd.C_below HR3.out HB.out) | (with_reducible refine Kd.C_alloc ?_ _) | (with_reducible refine Kd.C_drewN ?_ _) | (with_reducible refine Kd.C_drew ?_))); (case side6 => exact HC3.out); rintro e w28 ⟨rfl, hb⟩; refine ⟨_, rfl, ?_⟩; have n0_ := Aside0.mk (below_step (by repeat (first | (with_reducible first | exact HB.out | apply below_alloc | apply pw_below_drewN | apply below_drew1) | exact HB.out)) hb); clear HB; have HB := n0_; clear n0_; (try clear hb); (try clear hb2); (try clear hk); (try clear hi)) | ((with_reducible refine gate_callee (f := 33) rfl ?_); refine goesL_ (some 51) rfl rfl Tryz.func33 (by kernel_rfl) rfl #[.slice A0 l0.length c0, .int .i64 a1, .slice A2 l2.length c2, .slice A3 l3.length c3, .string a4] rfl (by (try simp only [List.map_toArray, List.map_cons, List.map_nil]); first | done | rfl | (simp only [List.length_drop, List.length_take]; rfl)) ?_; (with_reducible refine (besomref09_Proves.calls kj5 _ _ l0 a1 _ _ l2 _ _ l3 a4 t406 t407 t408 _ ?side1 ?side2 ?side3 ?side4 ?side5 ?side6 A14.out).mono ?_); (case side1 => repeat (first | exact (Kd.C_below HR0.out HB.out) | (with_reducible refine Kd.C_alloc ?_ _) | (with_reducible refine Kd.C_drewN ?_ _) | (with_reducible refine Kd.C_drew ?_))); (case side2 => exact HC0.out); (case side3 => repeat (first | exact (Kd.C_below HR2.out HB.out) | (with_reducible refine Kd.C_alloc ?_ _) | (with_reducible refine Kd.C_drewN ?_ _) | (with_reducible refine Kd.C_drew ?_))); (case side4 => exact HC2.out); (case side5 => repeat (first | exact (Kd.C_below HR3.out HB.out) | (with_reducible refine Kd.C_alloc ?_ _) | (with_reducible refine Kd.C_drewN ?_ _) | (with_reducible refine Kd.C_drew ?_))); (case side6 => exact HC3.out); rintro e w29 ⟨rfl, hb⟩; refine ⟨_, rfl, ?_⟩; have n0_ := Aside0.mk (below_step (by repeat (first | (with_reducible first | exact HB.out | apply below_alloc | apply pw_below_drewN | apply below_drew1) | exact HB.out)) hb); clear HB; have HB := n0_; clear n0_; (try clear hb); (try clear hb2); (try clear hk); (try clear hi)) | ((with_reducible refine gate_callee (f := 34) rfl ?_); refine goesL_ (some 58) rfl rfl Tryz.func34 (by kernel_rfl) rfl #[.slice A0 l0.length c0, .slice A3 l3.length c3] rfl (by (try simp only [List.map_toArray, List.map_cons, List.map_nil]); first | done | rfl | (simp only [List.length_drop, List.length_take]; rfl)) ?_; (with_reducible refine (protest_Text.calls _ _ l0 _ _ l3 t409 t410 _ ?side1 ?side2 ?side3 ?side4 A15.out).mono ?_); (case side1 => repeat (first | exact (Kd.C_below HR0.out HB.out) | (with_reducible refine Kd.C_alloc ?_ _) | (with_reducible refine Kd.C_drewN ?_ _) | (with_reducible refine Kd.C_drew ?_))); (case side2 => exact HC0.out); (case side3 => repeat (first | exact (Kd.C_below HR3.out HB.out) | (with_reducible refine Kd.C_alloc ?_ _) | (with_reducible refine Kd.C_drewN ?_ _) | (with_reducible refine Kd.C_drew ?_))); (case side4 => exact HC3.out); rintro e w30 ⟨rfl, hb⟩; refine ⟨_, rfl, ?_⟩; have n0_ := Aside0.mk (below_step (by repeat (first | (with_reducible first | exact HB.out | apply below_alloc | apply pw_below_drewN | apply below_drew1) | exact HB.out)) hb); clear HB; have HB := n0_; clear n0_; (try clear hb); (try clear hb2); (try clear hk); (try clear hi)) | ((with_reducible refine gate_callee (f := 35) rfl ?_); refine goesL_ (some 64) rfl rfl Tryz.func35 (by kernel_rfl) rfl #[.slice A0 l0.length c0, .slice A3 l3.length c3] rfl (by (try simp only [List.map_toArray, List.map_cons, List.map_nil]); first | done | rfl | (simp only [List.length_drop, List.length_take]; rfl)) ?_; (with_reducible refine (besomref09_Text.calls kj5 _ _ l0 _ _ l3 t411 t412 _ ?side1 ?side2 ?side3 ?side4 A16.out).mono ?_); (case side1 => repeat (first | exact (Kd.C_below HR0.out HB.out) | (with_reducible refine Kd.C_alloc ?_ _) | (with_reducible refine Kd.C_drewN ?_ _) | (with_reducible refine Kd.C_drew ?_))); (case side2 => exact HC0.out); (case side3 => repeat (first | exact (Kd.C_below HR3.out HB.out) | (with_reducible refine Kd.C_alloc ?_ _) | (with_reducible refine Kd.C_drewN ?_ _) | (with_reducible refine Kd.C_drew ?_))); (case side4 => exact HC3.out); rintro e w31 ⟨rfl, hb⟩; refine ⟨_, rfl, ?_⟩; have n0_ := Aside0.mk (below_step (by repeat (first | (with_reducible first | exact HB.out | apply below_alloc | apply pw_below_drewN | apply below_drew1) | exact HB.out)) hb); clear HB; have HB := n0_; clear n0_; (try clear hb); (try clear hb2); (try clear hk); (try clear hi)))
         go_ret
         exact ⟨by first | rfl | (simp [errW_none, errW_some] <;> rfl) | (simp [*, errW_none, errW_some] <;> rfl), by repeat (first | (with_reducible first | exact HB.out | apply below_alloc | apply pw_below_drewN | apply below_drew1) | exact HB.out)⟩
       ·rw [if_neg c20] at H
        have c20b0 : (t409.toList == t411.toList) = false := beq_eq_false_iff_ne.mpr c20
        have c20b1 : (t409.toList != t411.toList) = true := bne_iff_ne.mpr c20
        obtain rfl := Option.some.inj H
        go_wp2_with (first | ((with_reducible refine gate_callee (f := 29) rfl ?_); refine goesL_ (some 41) rfl rfl Tryz.func29 (by kernel_rfl) rfl #[.slice A0 l0.length c0, .int .i64 a1, .slice A2 l2.length c2, .slice A3 l3.length c3, .string a4] rfl (by (try simp only [List.map_toArray, List.map_cons, List.map_nil]); first | done | rfl | (simp only [List.length_drop, List.length_take]; rfl)) ?_; (with_reducible refine (protest_Proves.calls _ _ l0 a1 _ _ l2 _ _ l3 a4 t403 t404 t405 _ ?side1 ?side2 ?side3 ?side4 ?side5 ?side6 A13.out).mono ?_); (case side1 => repeat (first | exact (Kd.C_below HR0.out HB.out) | (with_reducible refine Kd.C_alloc ?_ _) | (with_reducible refine Kd.C_drewN ?_ _) | (with_reducible refine Kd.C_drew ?_))); (case side2 => exact HC0.out); (case side3 => repeat (first | exact (Kd.C_below HR2.out HB.out) | (with_reducible refine Kd.C_alloc ?_ _) | (with_reducible refine Kd.C_drewN ?_ _) | (with_reducible refine Kd.C_drew ?_))); (case side4 => exact HC2.out); (case side5 => repeat (first | exact (Kd.C_below HR3.out HB.out) | (with_reducible refine Kd.C_alloc ?_ _) | (with_reducible refine Kd.C_drewN ?_ _) | (with_reducible refine Kd.C_drew ?_))); (case side6 => exact HC3.out); rintro e w32 ⟨rfl, hb⟩; refine ⟨_, rfl, ?_⟩; have n0_ := Aside0.mk (below_step (by repeat (first | (with_reducible first | exact HB.out | apply below_alloc | apply pw_below_drewN | apply below_drew1) | exact HB.out)) hb); clear HB; have HB := n0_; clear n0_; (try clear hb); (try clear hb2); (try clear hk); (try clear hi)) | ((with_reducible refine gate_callee (f := 33) rfl ?_); refine goesL_ (some 51) rfl rfl Tryz.func33 (by kernel_rfl) rfl #[.slice A0 l0.length c0, .int .i64 a1, .slice A2 l2.length c2, .slice A3 l3.length c3, .string a4] rfl (by (try simp only [List.map_toArray, List.map_cons, List.map_nil]); first | done | rfl | (simp only [List.length_drop, List.length_take]; rfl)) ?_; (with_reducible refine (besomref09_Proves.calls kj5 _ _ l0 a1 _ _ l2 _ _ l3 a4 t406 t407 t408 _ ?side1 ?side2 ?side3 ?side4 ?side5 ?side6 A14.out).mono ?_); (case side1 => repeat (first | exact (Kd.C_below HR0.out HB.out) | (with_reducible refine Kd.C_alloc ?_ _) | (with_reducible refine Kd.C_drewN ?_ _) | (with_reducible refine Kd.C_drew ?_))); (case side2 => exact HC0.out); (case side3 => repeat (first | exact (Kd.C_below HR2.out HB.out) | (with_reducible refine Kd.C_alloc ?_ _) | (with_reducible refine Kd.C_drewN ?_ _) | (with_reducible refine Kd.C_drew ?_))); (case side4 => exact HC2.out); (case side5 => repeat (first | exact (Kd.C_below HR3.out HB.out) | (with_reducible refine Kd.C_alloc ?_ _) | (with_reducible refine Kd.C_drewN ?_ _) | (with_reducible refine Kd.C_drew ?_))); (case side6 => exact HC3.out); rintro e w33 ⟨rfl, hb⟩; refine ⟨_, rfl, ?_⟩; have n0_ := Aside0.mk (below_step (by repeat (first | (with_reducible first | exact HB.out | apply below_alloc | apply pw_below_drewN | apply below_drew1) | exact HB.out)) hb); clear HB; have HB := n0_; clear n0_; (try clear hb); (try clear hb2); (try clear hk); (try clear hi)) | ((with_reducible refine gate_callee (f := 34) rfl ?_); refine goesL_ (some 58) rfl rfl Tryz.func34 (by kernel_rfl) rfl #[.slice A0 l0.length c0, .slice A3 l3.length c3] rfl (by (try simp only [List.map_toArray, List.map_cons, List.map_nil]); first | done | rfl | (simp only [List.length_drop, List.length_take]; rfl)) ?_; (with_reducible refine (protest_Text.calls _ _ l0 _ _ l3 t409 t410 _ ?side1 ?side2 ?side3 ?side4 A15.out).mono ?_); (case side1 => repeat (first | exact (Kd.C_below HR0.out HB.out) | (with_reducible refine Kd.C_alloc ?_ _) | (with_reducible refine Kd.C_drewN ?_ _) | (with_reducible refine Kd.C_drew ?_))); (case side2 => exact HC0.out); (case side3 => repeat (first | exact (Kd.C_below HR3.out HB.out) | (with_reducible refine Kd.C_alloc ?_ _) | (with_reducible refine Kd.C_drewN ?_ _) | (with_reducible refine Kd.C_drew ?_))); (case side4 => exact HC3.out); rintro e w34 ⟨rfl, hb⟩; refine ⟨_, rfl, ?_⟩; have n0_ := Aside0.mk (below_step (by repeat (first | (with_reducible first | exact HB.out | apply below_alloc | apply pw_below_drewN | apply below_drew1) | exact HB.out)) hb); clear HB; have HB := n0_; clear n0_; (try clear hb); (try clear hb2); (try clear hk); (try clear hi)) | ((with_reducible refine gate_callee (f := 35) rfl ?_); refine goesL_ (some 64) rfl rfl Tryz.func35 (by kernel_rfl) rfl #[.slice A0 l0.length c0, .slice A3 l3.length c3] rfl (by (try simp only [List.map_toArray, List.map_cons, List.map_nil]); first | done | rfl | (simp only [List.length_drop, List.length_take]; rfl)) ?_; (with_reducible refine (besomref09_Text.calls kj5 _ _ l0 _ _ l3 t411 t412 _ ?side1 ?side2 ?side3 ?side4 A16.out).mono ?_); (case side1 => repeat (first | exact (Kd.C_below HR0.out HB.out) | (with_reducible refine Kd.C_alloc ?_ _) | (with_reducible refine Kd.C_drewN ?_ _) | (with_reducible refine Kd.C_drew ?_))); (case side2 => exact HC0.out); (case side3 => repeat (first | exact (Kd.C_below HR3.out HB.out) | (with_reducible refine Kd.C_alloc ?_ _) | (with_reducible refine Kd.C_drewN ?_ _) | (with_reducible refine Kd.C_drew ?_))); (case side4 => exact HC3.out); rintro e w35 ⟨rfl, hb⟩; refine ⟨_, rfl, ?_⟩; have n0_ := Aside0.mk (below_step (by repeat (first | (with_reducible first | exact HB.out | apply below_alloc | apply pw_below_drewN | apply below_drew1) | exact HB.out)) hb); clear HB; have HB := n0_; clear n0_; (try clear hb); (try clear hb2); (try clear hk); (try clear hi)))
        go_ret
        exact ⟨by first | rfl | (simp [errW_none, errW_some] <;> rfl) | (simp [*, errW_none, errW_some] <;> rfl), by repeat (first | (with_reducible first | exact HB.out | apply below_alloc | apply pw_below_drewN | apply below_drew1) | exact HB.out)⟩
      ·rw [if_neg c19] at H
       have c19b0 : (t405 == t408) = false := beq_eq_false_iff_ne.mpr c19
       have c19b1 : (t405 != t408) = true := bne_iff_ne.mpr c19
       obtain rfl := Option.some.inj H
       go_wp2_with (first | ((with_reducible refine gate_callee (f := 29) rfl ?_); refine goesL_ (some 41) rfl rfl Tryz.func29 (by kernel_rfl) rfl #[.slice A0 l0.length c0, .int .i64 a1, .slice A2 l2.length c2, .slice A3 l3.length c3, .string a4] rfl (by (try simp only [List.map_toArray, List.map_cons, List.map_nil]); first | done | rfl | (simp only [List.length_drop, List.length_take]; rfl)) ?_; (with_reducible refine (protest_Proves.calls _ _ l0 a1 _ _ l2 _ _ l3 a4 t403 t404 t405 _ ?side1 ?side2 ?side3 ?side4 ?side5 ?side6 A13.out).mono ?_); (case side1 => repeat (first | exact (Kd.C_below HR0.out HB.out) | (with_reducible refine Kd.C_alloc ?_ _) | (with_reducible refine Kd.C_drewN ?_ _) | (with_reducible refine Kd.C_drew ?_))); (case side2 => exact HC0.out); (case side3 => repeat (first | exact (Kd.C_below HR2.out HB.out) | (with_reducible refine Kd.C_alloc ?_ _) | (with_reducible refine Kd.C_drewN ?_ _) | (with_reducible refine Kd.C_drew ?_))); (case side4 => exact HC2.out); (case side5 => repeat (first | exact (Kd.C_below HR3.out HB.out) | (with_reducible refine Kd.C_alloc ?_ _) | (with_reducible refine Kd.C_drewN ?_ _) | (with_reducible refine Kd.C_drew ?_))); (case side6 => exact HC3.out); rintro e w36 ⟨rfl, hb⟩; refine ⟨_, rfl, ?_⟩; have n0_ := Aside0.mk (below_step (by repeat (first | (with_reducible first | exact HB.out | apply below_alloc | apply pw_below_drewN | apply below_drew1) | exact HB.out)) hb); clear HB; have HB := n0_; clear n0_; (try clear hb); (try clear hb2); (try clear hk); (try clear hi)) | ((with_reducible refine gate_callee (f := 33) rfl ?_); refine goesL_ (some 51) rfl rfl Tryz.func33 (by kernel_rfl) rfl #[.slice A0 l0.length c0, .int .i64 a1, .slice A2 l2.length c2, .slice A3 l3.length c3, .string a4] rfl (by (try simp only [List.map_toArray, List.map_cons, List.map_nil]); first | done | rfl | (simp only [List.length_drop, List.length_take]; rfl)) ?_; (with_reducible refine (besomref09_Proves.calls kj5 _ _ l0 a1 _ _ l2 _ _ l3 a4 t406 t407 t408 _ ?side1 ?side2 ?side3 ?side4 ?side5 ?side6 A14.out).mono ?_); (case side1 => repeat (first | exact (Kd.C_below HR0.out HB.out) | (with_reducible refine Kd.C_alloc ?_ _) | (with_reducible refine Kd.C_drewN ?_ _) | (with_reducible refine Kd.C_drew ?_))); (case side2 => exact HC0.out); (case side3 => repeat (first | exact (Kd.C_below HR2.out HB.out) | (with_reducible refine Kd.C_alloc ?_ _) | (with_reducible refine Kd.C_drewN ?_ _) | (with_reducible refine Kd.C_drew ?_))); (case side4 => exact HC2.out); (case side5 => repeat (first | exact (Kd.C_below HR3.out HB.out) | (with_reducible refine Kd.C_alloc ?_ _) | (with_reducible refine Kd.C_drewN ?_ _) | (with_reducible refine Kd.C_drew ?_))); (case side6 => exact HC3.out); rintro e w37 ⟨rfl, hb⟩; refine ⟨_, rfl, ?_⟩; have n0_ := Aside0.mk (below_step (by repeat (first | (with_reducible first | exact HB.out | apply below_alloc | apply pw_below_drewN | apply below_drew1) | exact HB.out)) hb); clear HB; have HB := n0_; clear n0_; (try clear hb); (try clear hb2); (try clear hk); (try clear hi)) | ((with_reducible refine gate_callee (f := 34) rfl ?_); refine goesL_ (some 58) rfl rfl Tryz.func34 (by kernel_rfl) rfl #[.slice A0 l0.length c0, .slice A3 l3.length c3] rfl (by (try simp only [List.map_toArray, List.map_cons, List.map_nil]); first | done | rfl | (simp only [List.length_drop, List.length_take]; rfl)) ?_; (with_reducible refine (protest_Text.calls _ _ l0 _ _ l3 t409 t410 _ ?side1 ?side2 ?side3 ?side4 A15.out).mono ?_); (case side1 => repeat (first | exact (Kd.C_below HR0.out HB.out) | (with_reducible refine Kd.C_alloc ?_ _) | (with_reducible refine Kd.C_drewN ?_ _) | (with_reducible refine Kd.C_drew ?_))); (case side2 => exact HC0.out); (case side3 => repeat (first | exact (Kd.C_below HR3.out HB.out) | (with_reducible refine Kd.C_alloc ?_ _) | (with_reducible refine Kd.C_drewN ?_ _) | (with_reducible refine Kd.C_drew ?_))); (case side4 => exact HC3.out); rintro e w38 ⟨rfl, hb⟩; refine ⟨_, rfl, ?_⟩; have n0_ := Aside0.mk (below_step (by repeat (first | (with_reducible first | exact HB.out | apply below_alloc | apply pw_below_drewN | apply below_drew1) | exact HB.out)) hb); clear HB; have HB := n0_; clear n0_; (try clear hb); (try clear hb2); (try clear hk); (try clear hi)) | ((with_reducible refine gate_callee (f := 35) rfl ?_); refine goesL_ (some 64) rfl rfl Tryz.func35 (by kernel_rfl) rfl #[.slice A0 l0.length c0, .slice A3 l3.length c3] rfl (by (try simp only [List.map_toArray, List.map_cons, List.map_nil]); first | done | rfl | (simp only [List.length_drop, List.length_take]; rfl)) ?_; (with_reducible refine (besomref09_Text.calls kj5 _ _ l0 _ _ l3 t411 t412 _ ?side1 ?side2 ?side3 ?side4 A16.out).mono ?_); (case side1 => repeat (first | exact (Kd.C_below HR0.out HB.out) | (with_reducible refine Kd.C_alloc ?_ _) | (with_reducible refine Kd.C_drewN ?_ _) | (with_reducible refine Kd.C_drew ?_))); (case side2 => exact HC0.out); (case side3 => repeat (first | exact (Kd.C_below HR3.out HB.out) | (with_reducible refine Kd.C_alloc ?_ _) | (with_reducible refine Kd.C_drewN ?_ _) | (with_reducible refine Kd.C_drew ?_))); (case side4 => exact HC3.out); rintro e w39 ⟨rfl, hb⟩; refine ⟨_, rfl, ?_⟩; have n0_ := Aside0.mk (below_step (by repeat (first | (with_reducible first | exact HB.out | apply below_alloc | apply pw_below_drewN | apply below_drew1) | exact HB.out)) hb); clear HB; have HB := n0_; clear n0_; (try clear hb); (try clear hb2); (try clear hk); (try clear hi)))
       go_ret
       exact ⟨by first | rfl | (simp [errW_none, errW_some] <;> rfl) | (simp [*, errW_none, errW_some] <;> rfl), by repeat (first | (with_reducible first | exact HB.out | apply below_alloc | apply pw_below_drewN | apply below_drew1) | exact HB.out)⟩
     ·rw [if_neg c18] at H
      have c18b0 : (t404 == t407) = false := beq_eq_false_iff_ne.mpr c18
      have c18b1 : (t404 != t407) = true := bne_iff_ne.mpr c18
      obtain rfl := Option.some.inj H
      go_wp2_with (first | ((with_reducible refine gate_callee (f := 29) rfl ?_); refine goesL_ (some 41) rfl rfl Tryz.func29 (by kernel_rfl) rfl #[.slice A0 l0.length c0, .int .i64 a1, .slice A2 l2.length c2, .slice A3 l3.length c3, .string a4] rfl (by (try simp only [List.map_toArray, List.map_cons, List.map_nil]); first | done | rfl | (simp only [List.length_drop, List.length_take]; rfl)) ?_; (with_reducible refine (protest_Proves.calls _ _ l0 a1 _ _ l2 _ _ l3 a4 t403 t404 t405 _ ?side1 ?side2 ?side3 ?side4 ?side5 ?side6 A13.out).mono ?_); (case side1 => repeat (first | exact (Kd.C_below HR0.out HB.out) | (with_reducible refine Kd.C_alloc ?_ _) | (with_reducible refine Kd.C_drewN ?_ _) | (with_reducible refine Kd.C_drew ?_))); (case side2 => exact HC0.out); (case side3 => repeat (first | exact (Kd.C_below HR2.out HB.out) | (with_reducible refine Kd.C_alloc ?_ _) | (with_reducible refine Kd.C_drewN ?_ _) | (with_reducible refine Kd.C_drew ?_))); (case side4 => exact HC2.out); (case side5 => repeat (first | exact (Kd.C_below HR3.out HB.out) | (with_reducible refine Kd.C_alloc ?_ _) | (with_reducible refine Kd.C_drewN ?_ _) | (with_reducible refine Kd.C_drew ?_))); (case side6 => exact HC3.out); rintro e w40 ⟨rfl, hb⟩; refine ⟨_, rfl, ?_⟩; have n0_ := Aside0.mk (below_step (by repeat (first | (with_reducible first | exact HB.out | apply below_alloc | apply pw_below_drewN | apply below_drew1) | exact HB.out)) hb); clear HB; have HB := n0_; clear n0_; (try clear hb); (try clear hb2); (try clear hk); (try clear hi)) | ((with_reducible refine gate_callee (f := 33) rfl ?_); refine goesL_ (some 51) rfl rfl Tryz.func33 (by kernel_rfl) rfl #[.slice A0 l0.length c0, .int .i64 a1, .slice A2 l2.length c2, .slice A3 l3.length c3, .string a4] rfl (by (try simp only [List.map_toArray, List.map_cons, List.map_nil]); first | done | rfl | (simp only [List.length_drop, List.length_take]; rfl)) ?_; (with_reducible refine (besomref09_Proves.calls kj5 _ _ l0 a1 _ _ l2 _ _ l3 a4 t406 t407 t408 _ ?side1 ?side2 ?side3 ?side4 ?side5 ?side6 A14.out).mono ?_); (case side1 => repeat (first | exact (Kd.C_below HR0.out HB.out) | (with_reducible refine Kd.C_alloc ?_ _) | (with_reducible refine Kd.C_drewN ?_ _) | (with_reducible refine Kd.C_drew ?_))); (case side2 => exact HC0.out); (case side3 => repeat (first | exact (Kd.C_below HR2.out HB.out) | (with_reducible refine Kd.C_alloc ?_ _) | (with_reducible refine Kd.C_drewN ?_ _) | (with_reducible refine Kd.C_drew ?_))); (case side4 => exact HC2.out); (case side5 => repeat (first | exact (Kd.C_below HR3.out HB.out) | (with_reducible refine Kd.C_alloc ?_ _) | (with_reducible refine Kd.C_drewN ?_ _) | (with_reducible refine Kd.C_drew ?_))); (case side6 => exact HC3.out); rintro e w41 ⟨rfl, hb⟩; refine ⟨_, rfl, ?_⟩; have n0_ := Aside0.mk (below_step (by repeat (first | (with_reducible first | exact HB.out | apply below_alloc | apply pw_below_drewN | apply below_drew1) | exact HB.out)) hb); clear HB; have HB := n0_; clear n0_; (try clear hb); (try clear hb2); (try clear hk); (try clear hi)) | ((with_reducible refine gate_callee (f := 34) rfl ?_); refine goesL_ (some 58) rfl rfl Tryz.func34 (by kernel_rfl) rfl #[.slice A0 l0.length c0, .slice A3 l3.length c3] rfl (by (try simp only [List.map_toArray, List.map_cons, List.map_nil]); first | done | rfl | (simp only [List.length_drop, List.length_take]; rfl)) ?_; (with_reducible refine (protest_Text.calls _ _ l0 _ _ l3 t409 t410 _ ?side1 ?side2 ?side3 ?side4 A15.out).mono ?_); (case side1 => repeat (first | exact (Kd.C_below HR0.out HB.out) | (with_reducible refine Kd.C_alloc ?_ _) | (with_reducible refine Kd.C_drewN ?_ _) | (with_reducible refine Kd.C_drew ?_))); (case side2 => exact HC0.out); (case side3 => repeat (first | exact (Kd.C_below HR3.out HB.out) | (with_reducible refine Kd.C_alloc ?_ _) | (with_reducible refine Kd.C_drewN ?_ _) | (with_reducible refine Kd.C_drew ?_))); (case side4 => exact HC3.out); rintro e w42 ⟨rfl, hb⟩; refine ⟨_, rfl, ?_⟩; have n0_ := Aside0.mk (below_step (by repeat (first | (with_reducible first | exact HB.out | apply below_alloc | apply pw_below_drewN | apply below_drew1) | exact HB.out)) hb); clear HB; have HB := n0_; clear n0_; (try clear hb); (try clear hb2); (try clear hk); (try clear hi)) | ((with_reducible refine gate_callee (f := 35) rfl ?_); refine goesL_ (some 64) rfl rfl Tryz.func35 (by kernel_rfl) rfl #[.slice A0 l0.length c0, .slice A3 l3.length c3] rfl (by (try simp only [List.map_toArray, List.map_cons, List.map_nil]); first | done | rfl | (simp only [List.length_drop, List.length_take]; rfl)) ?_; (with_reducible refine (besomref09_Text.calls kj5 _ _ l0 _ _ l3 t411 t412 _ ?side1 ?side2 ?side3 ?side4 A16.out).mono ?_); (case side1 => repeat (first | exact (Kd.C_below HR0.out HB.out) | (with_reducible refine Kd.C_alloc ?_ _) | (with_reducible refine Kd.C_drewN ?_ _) | (with_reducible refine Kd.C_drew ?_))); (case side2 => exact HC0.out); (case side3 => repeat (first | exact (Kd.C_below HR3.out HB.out) | (with_reducible refine Kd.C_alloc ?_ _) | (with_reducible refine Kd.C_drewN ?_ _) | (with_reducible refine Kd.C_drew ?_))); (case side4 => exact HC3.out); rintro e w43 ⟨rfl, hb⟩; refine ⟨_, rfl, ?_⟩; have n0_ := Aside0.mk (below_step (by repeat (first | (with_reducible first | exact HB.out | apply below_alloc | apply pw_below_drewN | apply below_drew1) | exact HB.out)) hb); clear HB; have HB := n0_; clear n0_; (try clear hb); (try clear hb2); (try clear hk); (try clear hi)))
      go_ret
      exact ⟨by first | rfl | (simp [errW_none, errW_some] <;> rfl) | (simp [*, errW_none, errW_some] <;> rfl), by repeat (first | (with_reducible first | exact HB.out | apply below_alloc | apply pw_below_drewN | apply below_drew1) | exact HB.out)⟩
    ·rw [if_neg c17] at H
     have c17b0 : (t403 == t406) = false := by simpa using c17
     (try (have c17b1 : decide (t403 = t406) = false := by simpa using c17))
     (try (have c17b2 : (t403 == t406) = false := by simpa using c17))
     (try (have c17b3 : ¬ (t403 = t406) := by simpa using c17))
     clear c17
     obtain rfl := Option.some.inj H
     go_wp2_with (first | ((with_reducible refine gate_callee (f := 29) rfl ?_); refine goesL_ (some 41) rfl rfl Tryz.func29 (by kernel_rfl) rfl #[.slice A0 l0.length c0, .int .i64 a1, .slice A2 l2.length c2, .slice A3 l3.length c3, .string a4] rfl (by (try simp only [List.map_toArray, List.map_cons, List.map_nil]); first | done | rfl | (simp only [List.length_drop, List.length_take]; rfl)) ?_; (with_reducible refine (protest_Proves.calls _ _ l0 a1 _ _ l2 _ _ l3 a4 t403 t404 t405 _ ?side1 ?side2 ?side3 ?side4 ?side5 ?side6 A13.out).mono ?_); (case side1 => repeat (first | exact (Kd.C_below HR0.out HB.out) | (with_reducible refine Kd.C_alloc ?_ _) | (with_reducible refine Kd.C_drewN ?_ _) | (with_reducible refine Kd.C_drew ?_))); (case side2 => exact HC0.out); (case side3 => repeat (first | exact (Kd.C_below HR2.out HB.out) | (with_reducible refine Kd.C_alloc ?_ _) | (with_reducible refine Kd.C_drewN ?_ _) | (with_reducible refine Kd.C_drew ?_))); (case side4 => exact HC2.out); (case side5 => repeat (first | exact (Kd.C_below HR3.out HB.out) | (with_reducible refine Kd.C_alloc ?_ _) | (with_reducible refine Kd.C_drewN ?_ _) | (with_reducible refine Kd.C_drew ?_))); (case side6 => exact HC3.out); rintro e w44 ⟨rfl, hb⟩; refine ⟨_, rfl, ?_⟩; have n0_ := Aside0.mk (below_step (by repeat (first | (with_reducible first | exact HB.out | apply below_alloc | apply pw_below_drewN | apply below_drew1) | exact HB.out)) hb); clear HB; have HB := n0_; clear n0_; (try clear hb); (try clear hb2); (try clear hk); (try clear hi)) | ((with_reducible refine gate_callee (f := 33) rfl ?_); refine goesL_ (some 51) rfl rfl Tryz.func33 (by kernel_rfl) rfl #[.slice A0 l0.length c0, .int .i64 a1, .slice A2 l2.length c2, .slice A3 l3.length c3, .string a4] rfl (by (try simp only [List.map_toArray, List.map_cons, List.map_nil]); first | done | rfl | (simp only [List.length_drop, List.length_take]; rfl)) ?_; (with_reducible refine (besomref09_Proves.calls kj5 _ _ l0 a1 _ _ l2 _ _ l3 a4 t406 t407 t408 _ ?side1 ?side2 ?side3 ?side4 ?side5 ?side6 A14.out).mono ?_); (case side1 => repeat (first | exact (Kd.C_below HR0.out HB.out) | (with_reducible refine Kd.C_alloc ?_ _) | (with_reducible refine Kd.C_drewN ?_ _) | (with_reducible refine Kd.C_drew ?_))); (case side2 => exact HC0.out); (case side3 => repeat (first | exact (Kd.C_below HR2.out HB.out) | (with_reducible refine Kd.C_alloc ?_ _) | (with_reducible refine Kd.C_drewN ?_ _) | (with_reducible refine Kd.C_drew ?_))); (case side4 => exact HC2.out); (case side5 => repeat (first | exact (Kd.C_below HR3.out HB.out) | (with_reducible refine Kd.C_alloc ?_ _) | (with_reducible refine Kd.C_drewN ?_ _) | (with_reducible refine Kd.C_drew ?_))); (case side6 => exact HC3.out); rintro e w45 ⟨rfl, hb⟩; refine ⟨_, rfl, ?_⟩; have n0_ := Aside0.mk (below_step (by repeat (first | (with_reducible first | exact HB.out | apply below_alloc | apply pw_below_drewN | apply below_drew1) | exact HB.out)) hb); clear HB; have HB := n0_; clear n0_; (try clear hb); (try clear hb2); (try clear hk); (try clear hi)) | ((with_reducible refine gate_callee (f := 34) rfl ?_); refine goesL_ (some 58) rfl rfl Tryz.func34 (by kernel_rfl) rfl #[.slice A0 l0.length c0, .slice A3 l3.length c3] rfl (by (try simp only [List.map_toArray, List.map_cons, List.map_nil]); first | done | rfl | (simp only [List.length_drop, List.length_take]; rfl)) ?_; (with_reducible refine (protest_Text.calls _ _ l0 _ _ l3 t409 t410 _ ?side1 ?side2 ?side3 ?side4 A15.out).mono ?_); (case side1 => repeat (first | exact (Kd.C_below HR0.out HB.out) | (with_reducible refine Kd.C_alloc ?_ _) | (with_reducible refine Kd.C_drewN ?_ _) | (with_reducible refine Kd.C_drew ?_))); (case side2 => exact HC0.out); (case side3 => repeat (first | exact (Kd.C_below HR3.out HB.out) | (with_reducible refine Kd.C_alloc ?_ _) | (with_reducible refine Kd.C_drewN ?_ _) | (with_reducible refine Kd.C_drew ?_))); (case side4 => exact HC3.out); rintro e w46 ⟨rfl, hb⟩; refine ⟨_, rfl, ?_⟩; have n0_ := Aside0.mk (below_step (by repeat (first | (with_reducible first | exact HB.out | apply below_alloc | apply pw_below_drewN | apply below_drew1) | exact HB.out)) hb); clear HB; have HB := n0_; clear n0_; (try clear hb); (try clear hb2); (try clear hk); (try clear hi)) | ((with_reducible refine gate_callee (f := 35) rfl ?_); refine goesL_ (some 64) rfl rfl Tryz.func35 (by kernel_rfl) rfl #[.slice A0 l0.length c0, .slice A3 l3.length c3] rfl (by (try simp only [List.map_toArray, List.map_cons, List.map_nil]); first | done | rfl | (simp only [List.length_drop, List.length_take]; rfl)) ?_; (with_reducible refine (besomref09_Text.calls kj5 _ _ l0 _ _ l3 t411 t412 _ ?side1 ?side2 ?side3 ?side4 A16.out).mono ?_); (case side1 => repeat (first | exact (Kd.C_below HR0.out HB.out) | (with_reducible refine Kd.C_alloc ?_ _) | (with_reducible refine Kd.C_drewN ?_ _) | (with_reducible refine Kd.C_drew ?_))); (case side2 => exact HC0.out); (case side3 => repeat (first | exact (Kd.C_below HR3.out HB.out) | (with_reducible refine Kd.C_alloc ?_ _) | (with_reducible refine Kd.C_drewN ?_ _) | (with_reducible refine Kd.C_drew ?_))); (case side4 => exact HC3.out); rintro e w47 ⟨rfl, hb⟩; refine ⟨_, rfl, ?_⟩; have n0_ := Aside0.mk (below_step (by repeat (first | (with_reducible first | exact HB.out | apply below_alloc | apply pw_below_drewN | apply below_drew1) | exact HB.out)) hb); clear HB; have HB := n0_; clear n0_; (try clear hb); (try clear hb2); (try clear hk); (try clear hi)))
     go_ret
     exact ⟨by first | rfl | (simp [errW_none, errW_some] <;> rfl) | (simp [*, errW_none, errW_some] <;> rfl), by repeat (first | (with_reducible first | exact HB.out | apply below_alloc | apply pw_below_drewN | apply below_drew1) | exact HB.out)⟩
end
end Go.Proofs.YtlhkeohcickiaaaGreatDoor.E

