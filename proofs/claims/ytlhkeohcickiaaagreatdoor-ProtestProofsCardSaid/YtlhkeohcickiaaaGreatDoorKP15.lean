/- Part 15 of 36 of the proof of ProtestProofs: lemmas, without conditions. -/
import Derived.Test.YtlhkeohcickiaaaGreatDoorKP14
set_option linter.all false
namespace Go.Proofs.YtlhkeohcickiaaaGreatDoor.E
open Go.RowKit Go.Proofs.YtlhkeohcickiaaaGreatDoorW.PrintWords Go.Proofs.YtlhkeohcickiaaaGreatDoorW.PrintLast Go.Proofs.YtlhkeohcickiaaaGreatDoorW.PrintMore
section
attribute [local go_sem] max2_int min2_int max_two min_two max_three min_three max_four min_four   -- for this text's walks alone
attribute [local go_sem] Go.Proofs.YtlhkeohcickiaaaGreatDoor.H.leq_str Go.Proofs.YtlhkeohcickiaaaGreatDoor.H.gtr_str Go.Proofs.YtlhkeohcickiaaaGreatDoor.H.geq_str
mutual
def besomlaw09_great.j1 : Nat → List (S25) → List ByteArray → Int → Option (Bool)
 | 0, _, _, _ => none
 | k + 1, x0, x1, x5 => besomlaw09_great.l1 k x0 x1 x5 0
def besomlaw09_great.l1 : Nat → List (S25) → List ByteArray → Int → Int → Option (Bool)
 | 0, _, _, _, _ => none
 | k + 1, x0, x1, x5, x7 => if x7 < (x1.length : Int) then (besomlaw09_great.j3 k x0 x1 x5 x7 (decide (x7 < 100))) else (besomlaw09_great.j3 k x0 x1 x5 x7 false)
def besomlaw09_great.j3 : Nat → List (S25) → List ByteArray → Int → Int → Bool → Option (Bool)
 | 0, _, _, _, _, _ => none
 | k + 1, x0, x1, x5, x7, x57 => if x57 = true then (if 0 ≤ x7 then (if x7 < (x1.length : Int) then (if ((rdOf ByteArray.empty x1 x7).size : Int) > 100 then (some true) else (besomlaw09_great.l1 k x0 x1 x5 (wrap64 (x7 + 1)))) else (none)) else (none)) else (if (x0.length : Int) > 70 then (some true) else (if (x1.length : Int) > 70 then (some true) else (some (decide (x5 > 300)))))
def besomlaw09_great.l0 : Nat → List (S25) → List ByteArray → Int → Int → Option (Bool)
 | 0, _, _, _, _ => none
 | k + 1, x0, x1, x5, x6 => if x6 < (x0.length : Int) then (if x6 < 100 then (if 0 ≤ x6 then (besomlaw09_great.l0 k x0 x1 (wrap64 ((wrap64 ((wrap64 (x5 + (((rd_T25 x0 x6).f3).length : Int))) + (((rd_T25 x0 x6).f4).length : Int))) + (wrap64 (Int.tdiv (wrap64 ((((rd_T25 x0 x6).f0).size : Int) + (((rd_T25 x0 x6).f5).size : Int))) 50)))) (wrap64 (x6 + 1))) else (none)) else (besomlaw09_great.j1 k x0 x1 x5)) else (besomlaw09_great.j1 k x0 x1 x5)
end
def besomlaw09_great.f (k : Nat) (l0 : List (S25)) (l1 : List ByteArray) : Option (Bool) := besomlaw09_great.l0 k l0 l1 (l1.length : Int) 0
set_option maxHeartbeats 8000000 in
set_option maxRecDepth 100000 in
theorem besomlaw09_great.calls (k : Nat) (A0 : Option Addr) (c0 : Nat) (l0 : List (S25)) (A1 : Option Addr) (c1 : Nat) (l1 : List ByteArray) (r : Bool) (w : World) (hr0 : Kd.C k25 w A0 l0.length l0) (hc0 : l0.length ≤ c0) (hr1 : Kd.C Kd.string w A1 l1.length l1) (hc1 : l1.length ≤ c1) (h : besomlaw09_great.f k l0 l1 = some r) :
  Calls Tryz.prog 10 #[.slice A0 l0.length c0, .slice A1 l1.length c1] w fun e w' => e = .returned (.bool r) ∧ Drawn0 w w' := by
 have HR0 := Aside0.mk hr0
 have HC0 := Aside0.mk hc0
 clear hr0 hc0
 have HR1 := Aside0.mk hr1
 have HC1 := Aside0.mk hc1
 clear hr1 hc1
 have H : (besomlaw09_great.l0 k l0 l1 (l1.length : Int) 0) = some r := h
 clear h
 have HC3 := Aside0.mk H
 clear H
 go_enter Tryz.func10, Tryz.ntmps10
 go_upto_block 0 with (fail)
 repeat (go_quiet (fail); go_upto_block 0 with (fail))
 go_cut [5] (fun v5 wc => ∃ (kq : Nat) (x5_2 : Int), v5 = .int .i64 x5_2 ∧ Aside0 (besomlaw09_great.j1 kq l0 l1 x5_2 = some r) ∧ Aside0 (kq ≤ k) ∧ Drawn0 w wc)
 case first =>
  have H := HC3.out
  clear HC3
  have H' := Aside0.mk H
  clear H
  go_wp2
  repeat (go_quiet (fail); try go_wp2)
  go_loopg [5, 6] k (fun kq v5 v6 w' => ∃ (x5_1 : Int) (x6_1 : Int), v5 = .int .i64 x5_1 ∧ v6 = .int .i64 x6_1 ∧ Aside0 (besomlaw09_great.l0 kq l0 l1 x5_1 x6_1 = some r) ∧ Aside0 (kq ≤ k) ∧ Drawn0 w w')
  case atStart => exact ⟨((l1.length : Int)), (0), (by first | rfl | (simp; done) | (simp [*]; done)), (by first | rfl | (simp; done) | (simp [*]; done)), H', ⟨Nat.le_refl _⟩, by repeat (first | exact Drawn0.refl _ | apply Drawn0.step)⟩
  case round =>
   clear H'
   try clear c1
   try clear p2
   obtain ⟨x5_1, x6_1, rfl, rfl, HA, HK1, ⟨m1, rfl⟩⟩ := hrel
   cases gk with
   | zero => exact absurd HA.out (by simp [besomlaw09_great.l0])
   | succ k1 =>
    have H := HA.out
    clear HA
    simp only [besomlaw09_great.l0] at H
    by_cases c4 : x6_1 < (l0.length : Int)
    ·rw [if_pos c4] at H
     have c4b0 : decide (x6_1 < (l0.length : Int)) = true := decide_eq_true c4
     clear c4
     (first | rw [c4b0] | (simp only [i64_w, i32_w]; rw [c4b0]) | skip)
     by_cases c5 : x6_1 < 100
     ·rw [if_pos c5] at H
      have c5b0 : decide (x6_1 < 100) = true := decide_eq_true c5
      clear c5
      by_cases c6 : 0 ≤ x6_1
      ·rw [if_pos c6] at H
       have c6b0 : decide (0 ≤ x6_1) = true := decide_eq_true c6
       clear c6
       have H' := Aside0.mk H
       clear H
       have p131 : 0 ≤ (x6_1 : Int) := of_decide_eq_true (by first | (with_reducible assumption) | assumption)
       have q131 : x6_1 < (l0.length : Int) := of_decide_eq_true (by first | (with_reducible assumption) | assumption)
       obtain ⟨ad131, A131_3, c131_3, A131_4, c131_4, e131, hx131_0, hx131_1, hx131_2, hx131_3, hx131_4, hx131_5, hl131_3, hi131_3, hl131_4, hi131_4⟩ := at_T25 HR0.out x6_1 p131 q131
       cases e131
       have HR131_3 := Aside0.mk hi131_3
       have HC131_3 := Aside0.mk hl131_3
       clear hi131_3 hl131_3
       have HR131_4 := Aside0.mk hi131_4
       have HC131_4 := Aside0.mk hl131_4
       clear hi131_4 hl131_4
       replace p131 := eq_true p131
       replace q131 := eq_true q131
       have p132 : 0 ≤ (x6_1 : Int) := of_decide_eq_true (by first | (with_reducible assumption) | assumption)
       have q132 : x6_1 < (l0.length : Int) := of_decide_eq_true (by first | (with_reducible assumption) | assumption)
       obtain ⟨ad132, A132_3, c132_3, A132_4, c132_4, e132, hx132_0, hx132_1, hx132_2, hx132_3, hx132_4, hx132_5, hl132_3, hi132_3, hl132_4, hi132_4⟩ := at_T25 HR0.out x6_1 p132 q132
       obtain rfl : ad131 = ad132 := (by injection e132)
       have HR132_3 := Aside0.mk hi132_3
       have HC132_3 := Aside0.mk hl132_3
       clear hi132_3 hl132_3
       have HR132_4 := Aside0.mk hi132_4
       have HC132_4 := Aside0.mk hl132_4
       clear hi132_4 hl132_4
       replace p132 := eq_true p132
       replace q132 := eq_true q132
       have ea_ := Option.some.inj (hx131_3.symm.trans hx132_3)
       injection ea_ with ea_ en_ ec_
       subst ea_
       subst ec_
       clear en_
       have ea_ := Option.some.inj (hx131_4.symm.trans hx132_4)
       injection ea_ with ea_ en_ ec_
       subst ea_
       subst ec_
       clear en_
       have p133 : 0 ≤ (x6_1 : Int) := of_decide_eq_true (by first | (with_reducible assumption) | assumption)
       have q133 : x6_1 < (l0.length : Int) := of_decide_eq_true (by first | (with_reducible assumption) | assumption)
       obtain ⟨ad133, A133_3, c133_3, A133_4, c133_4, e133, hx133_0, hx133_1, hx133_2, hx133_3, hx133_4, hx133_5, hl133_3, hi133_3, hl133_4, hi133_4⟩ := at_T25 HR0.out x6_1 p133 q133
       obtain rfl : ad131 = ad133 := (by injection e133)
       have HR133_3 := Aside0.mk hi133_3
       have HC133_3 := Aside0.mk hl133_3
       clear hi133_3 hl133_3
       have HR133_4 := Aside0.mk hi133_4
       have HC133_4 := Aside0.mk hl133_4
       clear hi133_4 hl133_4
       replace p133 := eq_true p133
       replace q133 := eq_true q133
       have ea_ := Option.some.inj (hx131_3.symm.trans hx133_3)
       injection ea_ with ea_ en_ ec_
       subst ea_
       subst ec_
       clear en_
       have ea_ := Option.some.inj (hx131_4.symm.trans hx133_4)
       injection ea_ with ea_ en_ ec_
       subst ea_
       subst ec_
       clear en_
       have p134 : 0 ≤ (x6_1 : Int) := of_decide_eq_true (by first | (with_reducible assumption) | assumption)
       have q134 : x6_1 < (l0.length : Int) := of_decide_eq_true (by first | (with_reducible assumption) | assumption)
       obtain ⟨ad134, A134_3, c134_3, A134_4, c134_4, e134, hx134_0, hx134_1, hx134_2, hx134_3, hx134_4, hx134_5, hl134_3, hi134_3, hl134_4, hi134_4⟩ := at_T25 HR0.out x6_1 p134 q134
       obtain rfl : ad131 = ad134 := (by injection e134)
       have HR134_3 := Aside0.mk hi134_3
       have HC134_3 := Aside0.mk hl134_3
       clear hi134_3 hl134_3
       have HR134_4 := Aside0.mk hi134_4
       have HC134_4 := Aside0.mk hl134_4
       clear hi134_4 hl134_4
       replace p134 := eq_true p134
       replace q134 := eq_true q134
       have ea_ := Option.some.inj (hx131_3.symm.trans hx134_3)
       injection ea_ with ea_ en_ ec_
       subst ea_
       subst ec_
       clear en_
       have ea_ := Option.some.inj (hx131_4.symm.trans hx134_4)
       injection ea_ with ea_ en_ ec_
       subst ea_
       subst ec_
       clear en_
       go_wp2
       repeat (go_quiet (fail); try go_wp2)
       go_roundg k1
       case measure => have := HK1.out; omega
       case rel => exact ⟨(wrap64 ((wrap64 ((wrap64 (x5_1 + (((rd_T25 l0 x6_1).f3).length : Int))) + (((rd_T25 l0 x6_1).f4).length : Int))) + (wrap64 (Int.tdiv (wrap64 ((((rd_T25 l0 x6_1).f0).size : Int) + (((rd_T25 l0 x6_1).f5).size : Int))) 50)))), (wrap64 (x6_1 + 1)), (by first | rfl | (simp; done) | (simp [*]; done)), (by first | rfl | (simp; done) | (simp [*]; done)), H', ⟨by have := HK1.out; omega⟩, by repeat (first | exact Drawn0.refl _ | apply Drawn0.step)⟩
      ·rw [if_neg c6] at H
       exact absurd H (by simp)
     ·rw [if_neg c5] at H
      have c5b0 : decide (x6_1 < 100) = false := decide_eq_false c5
      clear c5
      have H' := Aside0.mk H
      clear H
      go_wp2
      repeat (go_quiet (fail); try go_wp2)
      go_meet
      case rel => exact ⟨_, (x5_1), (by first | rfl | (simp; done) | (simp [*]; done)), H', ⟨by have := HK1.out; first | omega | exact Nat.le_refl _⟩, by repeat (first | exact Drawn0.refl _ | apply Drawn0.step)⟩
    ·rw [if_neg c4] at H
     have c4b0 : decide (x6_1 < (l0.length : Int)) = false := decide_eq_false c4
     clear c4
     (first | rw [c4b0] | (simp only [i64_w, i32_w]; rw [c4b0]) | skip)
     have H' := Aside0.mk H
     clear H
     go_wp2
     repeat (go_quiet (fail); try go_wp2)
     go_meet
     case rel => exact ⟨_, (x5_1), (by first | rfl | (simp; done) | (simp [*]; done)), H', ⟨by have := HK1.out; first | omega | exact Nat.le_refl _⟩, by repeat (first | exact Drawn0.refl _ | apply Drawn0.step)⟩
 case rest =>
  clear HC3
  try clear c1
  try clear p1
  try clear q1
  try clear hx1
  try clear p2
  try clear c4
  try clear c4b0
  try clear c5
  try clear c5b0
  try clear c6
  try clear c6b0
  try clear p6
  try clear hx131_0
  try clear hx131_1
  try clear hx131_2
  try clear hx131_3
  try clear hx131_4
  try clear hx131_5
  try clear hx132_0
  try clear hx132_1
  try clear hx132_2
  try clear hx132_3
  try clear hx132_4
  try clear hx132_5
  try clear hx133_0
  try clear hx133_1
  try clear hx133_2
  try clear hx133_3
  try clear hx133_4
  try clear hx133_5
  try clear hx134_0
  try clear hx134_1
  try clear hx134_2
  try clear hx134_3
  try clear hx134_4
  try clear hx134_5
  try clear p131
  try clear p132
  try clear p133
  try clear p134
  try clear p2
  try clear q131
  try clear q132
  try clear q133
  try clear q134
  obtain ⟨kq, x5_2, rfl, HA, HJ2, ⟨mc2, rfl⟩⟩ := hcut
  cases kq with
  | zero => exact absurd HA.out (by simp [besomlaw09_great.j1])
  | succ kj2 =>
   have H := HA.out
   clear HA
   simp only [besomlaw09_great.j1] at H
   have H' := Aside0.mk H
   clear H
   go_wp2
   repeat (go_quiet (fail); try go_wp2)
   go_loopg [7] kj2 (fun kq v7 w' => ∃ (x7_2 : Int), v7 = .int .i64 x7_2 ∧ Aside0 (besomlaw09_great.l1 kq l0 l1 x5_2 x7_2 = some r) ∧ Aside0 (kq ≤ kj2) ∧ Drawn0 w w')
   case atStart => exact ⟨(0), (by first | rfl | (simp; done) | (simp [*]; done)), H', ⟨Nat.le_refl _⟩, by repeat (first | exact Drawn0.refl _ | apply Drawn0.step)⟩
   case round =>
    clear H'
    try clear c1
    try clear p1
    try clear q1
    try clear hx1
    try clear c2
    try clear p2
    try clear c4
    try clear c4b0
    try clear c5
    try clear c5b0
    try clear c6
    try clear c6b0
    try clear p6
    try clear hx131_0
    try clear hx131_1
    try clear hx131_2
    try clear hx131_3
    try clear hx131_4
    try clear hx131_5
    try clear hx132_0
    try clear hx132_1
    try clear hx132_2
    try clear hx132_3
    try clear hx132_4
    try clear hx132_5
    try clear hx133_0
    try clear hx133_1
    try clear hx133_2
    try clear hx133_3
    try clear hx133_4
    try clear hx133_5
    try clear hx134_0
    try clear hx134_1
    try clear hx134_2
    try clear hx134_3
    try clear hx134_4
    try clear hx134_5
    try clear p1
    try clear p131
    try clear p132
    try clear p133
    try clear p134
    try clear p2
    try clear p6
    try clear q1
    try clear q131
    try clear q132
    try clear q133
    try clear q134
    obtain ⟨x7_2, rfl, HA, HK2, ⟨m2, rfl⟩⟩ := hrel
    cases gk with
    | zero => exact absurd HA.out (by simp [besomlaw09_great.l1])
    | succ k2 =>
     have H := HA.out
     clear HA
     simp only [besomlaw09_great.l1] at H
     have HC7 := Aside0.mk H
     clear H
     go_upto_region 7 with (fail)
     repeat (go_quiet (fail); go_upto_region 7 with (fail))
     go_cut [57] (fun v57 wc => ∃ (kq : Nat) (x57_6 : Bool), v57 = .bool x57_6 ∧ Aside0 (besomlaw09_great.j3 kq l0 l1 x5_2 x7_2 x57_6 = some r) ∧ Aside0 (kq ≤ k2) ∧ Drawn0 w wc)
     case first =>
      have H := HC7.out
      clear HC7
      by_cases c8 : x7_2 < (l1.length : Int)
      ·rw [if_pos c8] at H
       have c8b0 : decide (x7_2 < (l1.length : Int)) = true := decide_eq_true c8
       clear c8
       (first | rw [c8b0] | (simp only [i64_w, i32_w]; rw [c8b0]) | skip)
       have H' := Aside0.mk H
       clear H
       go_wp2
       repeat (go_quiet (fail); try go_wp2)
       go_meet
       case rel => exact ⟨_, (decide (x7_2 < 100)), (by first | rfl | (simp; done) | (simp [*]; done)), H', ⟨by have := HJ2.out; have := HK2.out; first | omega | exact Nat.le_refl _⟩, by repeat (first | exact Drawn0.refl _ | apply Drawn0.step)⟩
      ·rw [if_neg c8] at H
       have c8b0 : decide (x7_2 < (l1.length : Int)) = false := decide_eq_false c8
       clear c8
       (first | rw [c8b0] | (simp only [i64_w, i32_w]; rw [c8b0]) | skip)
       have H' := Aside0.mk H
       clear H
       go_wp2
       repeat (go_quiet (fail); try go_wp2)
       go_meet
       case rel => exact ⟨_, (false), (by first | rfl | (simp; done) | (simp [*]; done)), H', ⟨by have := HJ2.out; have := HK2.out; first | omega | exact Nat.le_refl _⟩, by repeat (first | exact Drawn0.refl _ | apply Drawn0.step)⟩
     case rest =>
      clear HC7
      try clear c1
      try clear p1
      try clear q1
      try clear hx1
      try clear c2
      try clear p2
      try clear c4
      try clear c4b0
      try clear c5
      try clear c5b0
      try clear c6
      try clear c6b0
      try clear p6
      try clear c8
      try clear c8b0
      try clear hx131_0
      try clear hx131_1
      try clear hx131_2
      try clear hx131_3
      try clear hx131_4
      try clear hx131_5
      try clear hx132_0
      try clear hx132_1
      try clear hx132_2
      try clear hx132_3
      try clear hx132_4
      try clear hx132_5
      try clear hx133_0
      try clear hx133_1
      try clear hx133_2
      try clear hx133_3
      try clear hx133_4
      try clear hx133_5
      try clear hx134_0
      try clear hx134_1
      try clear hx134_2
      try clear hx134_3
      try clear hx134_4
      try clear hx134_5
      try clear p1
      try clear p131
      try clear p132
      try clear p133
      try clear p134
      try clear p2
      try clear p6
      try clear q1
      try clear q131
      try clear q132
      try clear q133
      try clear q134
      obtain ⟨kq, x57_6, rfl, HA, HJ6, ⟨mc6, rfl⟩⟩ := hcut
      cases kq with
      | zero => exact absurd HA.out (by simp [besomlaw09_great.j3])
      | succ kj6 =>
       have H := HA.out
       clear HA
       simp only [besomlaw09_great.j3] at H
       by_cases c9 : x57_6 = true
       ·subst c9
        have H1 : (if 0 ≤ x7_2 then (if x7_2 < (l1.length : Int) then (if ((rdOf ByteArray.empty l1 x7_2).size : Int) > 100 then (some true) else (besomlaw09_great.l1 kj6 l0 l1 x5_2 (wrap64 (x7_2 + 1)))) else (none)) else (none)) = some r := by rw [if_pos rfl] at H; exact H
        clear H
        have H := H1
        clear H1
        by_cases c10 : 0 ≤ x7_2
        ·rw [if_pos c10] at H
         have c10b0 : decide (0 ≤ x7_2) = true := decide_eq_true c10
         clear c10
         by_cases c11 : x7_2 < (l1.length : Int)
         ·rw [if_pos c11] at H
          have c11b0 : decide (x7_2 < (l1.length : Int)) = true := decide_eq_true c11
          clear c11
          by_cases c12 : ((rdOf ByteArray.empty l1 x7_2).size : Int) > 100
          ·rw [if_pos c12] at H
           have c12b0 : decide (100 < ((rdOf ByteArray.empty l1 x7_2).size : Int)) = true := decide_eq_true c12
           have c12b1 : decide (100 < (rdOf ByteArray.empty l1 x7_2).size) = true := decide_eq_true (by omega)
           clear c12
           obtain rfl := Option.some.inj H
           have p135 : 0 ≤ (x7_2 : Int) := of_decide_eq_true (by first | (with_reducible assumption) | assumption)
           have q135 : x7_2 < (l1.length : Int) := of_decide_eq_true (by first | (with_reducible assumption) | assumption)
           obtain ⟨ad135, e135, hx135_0⟩ := Kd.at_string HR1.out x7_2 p135 q135
           cases e135
           replace p135 := eq_true p135
           replace q135 := eq_true q135
           go_wp2
           repeat (go_quiet (fail); try go_wp2)
           go_ret
           exact ⟨by first | rfl | (simp; done) | (simp [*]; done), by repeat (first | exact Drawn0.refl _ | apply Drawn0.step)⟩
          ·rw [if_neg c12] at H
           have c12b0 : decide (100 < ((rdOf ByteArray.empty l1 x7_2).size : Int)) = false := decide_eq_false c12
           have c12b1 : decide (100 < (rdOf ByteArray.empty l1 x7_2).size) = false := decide_eq_false (by omega)
           clear c12
           have H' := Aside0.mk H
           clear H
           have p135 : 0 ≤ (x7_2 : Int) := of_decide_eq_true (by first | (with_reducible assumption) | assumption)
           have q135 : x7_2 < (l1.length : Int) := of_decide_eq_true (by first | (with_reducible assumption) | assumption)
           obtain ⟨ad135, e135, hx135_0⟩ := Kd.at_string HR1.out x7_2 p135 q135
           cases e135
           replace p135 := eq_true p135
           replace q135 := eq_true q135
           go_wp2
           repeat (go_quiet (fail); try go_wp2)
           go_roundg kj6
           case measure => have := HJ2.out; have := HK2.out; have := HJ6.out; omega
           case rel => exact ⟨(wrap64 (x7_2 + 1)), (by first | rfl | (simp; done) | (simp [*]; done)), H', ⟨by have := HJ2.out; have := HK2.out; have := HJ6.out; omega⟩, by repeat (first | exact Drawn0.refl _ | apply Drawn0.step)⟩
         ·rw [if_neg c11] at H
          exact absurd H (by simp)
        ·rw [if_neg c10] at H
         exact absurd H (by simp)
       ·replace c9 := Bool.eq_false_iff.mpr c9
        subst c9
        have H1 : (if (l0.length : Int) > 70 then (some true) else (if (l1.length : Int) > 70 then (some true) else (some (decide (x5_2 > 300))))) = some r := by rw [if_neg (show ¬ (false = true) by decide)] at H; exact H
        clear H
        have H := H1
        clear H1
        by_cases c13 : (l0.length : Int) > 70
        ·rw [if_pos c13] at H
         have c13b0 : decide (70 < (l0.length : Int)) = true := decide_eq_true c13
         have c13b1 : decide (70 < l0.length) = true := decide_eq_true (by omega)
         clear c13
         obtain rfl := Option.some.inj H
         go_wp2
         repeat (go_quiet (fail); try go_wp2)
         go_ret
         exact ⟨by first | rfl | (simp; done) | (simp [*]; done), by repeat (first | exact Drawn0.refl _ | apply Drawn0.step)⟩
        ·rw [if_neg c13] at H
         have c13b0 : decide (70 < (l0.length : Int)) = false := decide_eq_false c13
         have c13b1 : decide (70 < l0.length) = false := decide_eq_false (by omega)
         clear c13
         by_cases c14 : (l1.length : Int) > 70
         ·rw [if_pos c14] at H
          have c14b0 : decide (70 < (l1.length : Int)) = true := decide_eq_true c14
          have c14b1 : decide (70 < l1.length) = true := decide_eq_true (by omega)
          clear c14
          obtain rfl := Option.some.inj H
          go_wp2
          repeat (go_quiet (fail); try go_wp2)
          go_ret
          exact ⟨by first | rfl | (simp; done) | (simp [*]; done), by repeat (first | exact Drawn0.refl _ | apply Drawn0.step)⟩
         ·rw [if_neg c14] at H
          have c14b0 : decide (70 < (l1.length : Int)) = false := decide_eq_false c14
          have c14b1 : decide (70 < l1.length) = false := decide_eq_false (by omega)
          clear c14
          obtain rfl := Option.some.inj H
          go_wp2
          repeat (go_quiet (fail); try go_wp2)
          go_ret
          exact ⟨by first | rfl | (simp; done) | (simp [*]; done), by repeat (first | exact Drawn0.refl _ | apply Drawn0.step)⟩
end
end Go.Proofs.YtlhkeohcickiaaaGreatDoor.E

