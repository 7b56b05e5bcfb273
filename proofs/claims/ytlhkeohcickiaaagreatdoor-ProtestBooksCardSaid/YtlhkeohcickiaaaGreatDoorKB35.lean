/- LawProtestBooks, part 35 of 35: my texts (walks of the program over sparse frames, plain laws, and texts that print.py printed for this seat), without what the statement does not reach. -/
import Derived.Test.YtlhkeohcickiaaaGreatDoorKB27
import Derived.Test.YtlhkeohcickiaaaGreatDoorKB30
import Derived.Test.YtlhkeohcickiaaaGreatDoorKB34
import Derived.Test.YtlhkeohcickiaaaGreatDoorKB31
import Derived.Test.YtlhkeohcickiaaaGreatDoorKB29
import Derived.WalkSpells
import Derived.Deep.Slices
import Derived.Deep.Strs
import Derived.ChangeSlices
import Derived.DataElems
import Derived.OpenShut
import Derived.Test.YtlhkeohcickiaaaGreatDoorRows
import Derived.Test.YtlhkeohcickiaaaGreatDoorTie
import Derived.Test.YtlhkeohcickiaaaGreatDoorCards
import Derived.WalkKit
import Derived.ProofKit
import Derived.ShutString
import Derived.ChangeOld
import Derived.Below
import Derived.SizedLaws
import Derived.SevenTiedAt
import Derived.LaidMore
import Derived.Lay
import Derived.Stop.Joined
set_option linter.all false
namespace Go.Proofs.YtlhkeohcickiaaaGreatDoor.E
open Go.RowKit Go.Proofs.YtlhkeohcickiaaaGreatDoor.H Go.Proofs.YtlhkeohcickiaaaGreatDoorW.PrintWords Go.Proofs.YtlhkeohcickiaaaGreatDoorW.PrintLast Go.Proofs.YtlhkeohcickiaaaGreatDoorW.PrintMore
section
open Prot (heldOf derive proveL at_ stepOk)
theorem wrapN {i : Nat} (h : i < 9223372036854775807) : wrap64 ((i : Int) + 1) = ((i + 1 : Nat) : Int) := by rw [wrap64_of (by omega) (by omega)]; omega
end
section
open Prot (heldOf derive proveL at_ stepOk)
theorem great_l1 (l0 : List S25) (l : List ByteArray) (x5 : Int) : ∀ (d i : Nat), i ≤ 100 → 100 - i = d → ∃ b, (∀ k, 2 * d + 4 < k → besomlaw09_great.l1 k l0 l x5 (i : Int) = some b) ∧ (b = false → l0.length ≤ 70 ∧ l.length ≤ 70) := by
 have fin : ∃ b, (∀ k i, 0 < k → besomlaw09_great.j3 k l0 l x5 i false = some b) ∧ (b = false → l0.length ≤ 70 ∧ l.length ≤ 70) := by
  by_cases h1 : (l0.length : Int) > 70
  ·refine ⟨true, fun k i hk => ?_, by simp⟩
   obtain ⟨k, rfl⟩ : ∃ m, k = m + 1 := ⟨k - 1, by omega⟩
   simp only [besomlaw09_great.j3]
   rw [if_neg (by decide), if_pos h1]
  ·by_cases h2 : (l.length : Int) > 70
   ·refine ⟨true, fun k i hk => ?_, by simp⟩
    obtain ⟨k, rfl⟩ : ∃ m, k = m + 1 := ⟨k - 1, by omega⟩
    simp only [besomlaw09_great.j3]
    rw [if_neg (by decide), if_neg h1, if_pos h2]
   ·refine ⟨decide (x5 > 300), fun k i hk => ?_, fun _ => by omega⟩
    obtain ⟨k, rfl⟩ : ∃ m, k = m + 1 := ⟨k - 1, by omega⟩
    simp only [besomlaw09_great.j3]
    rw [if_neg (by decide), if_neg h1, if_neg h2]
 obtain ⟨b0, f1, f2⟩ := fin
 intro d
 induction d with
 | zero =>
  intro i h1 h2
  refine ⟨b0, fun k hk => ?_, f2⟩
  obtain ⟨k, rfl⟩ : ∃ m, k = m + 1 := ⟨k - 1, by omega⟩
  simp only [besomlaw09_great.l1]
  split
  ·rw [show decide ((i : Int) < 100) = false from decide_eq_false (by omega), f1 k _ (by omega)]
  ·rw [f1 k _ (by omega)]
 | succ d ih =>
  intro i h1 h2
  by_cases hi : i < l.length
  ·by_cases hz : ((rdOf ByteArray.empty l (i : Int)).size : Int) > 100
   ·refine ⟨true, fun k hk => ?_, by simp⟩
    obtain ⟨k, rfl⟩ : ∃ m, k = m + 2 := ⟨k - 2, by omega⟩
    simp only [besomlaw09_great.l1]
    rw [if_pos (by omega), show decide ((i : Int) < 100) = true from decide_eq_true (by omega)]
    simp only [besomlaw09_great.j3]
    simp only [↓reduceIte]
    rw [if_pos (by omega), if_pos (by omega), if_pos hz]
   ·obtain ⟨b, g1, g2⟩ := ih (i + 1) (by omega) (by omega)
    refine ⟨b, fun k hk => ?_, g2⟩
    obtain ⟨k, rfl⟩ : ∃ m, k = m + 2 := ⟨k - 2, by omega⟩
    simp only [besomlaw09_great.l1]
    rw [if_pos (by omega), show decide ((i : Int) < 100) = true from decide_eq_true (by omega)]
    simp only [besomlaw09_great.j3]
    simp only [↓reduceIte]
    rw [if_pos (by omega), if_pos (by omega), if_neg hz, wrapN (by omega), g1 k (by omega)]
  ·refine ⟨b0, fun k hk => ?_, f2⟩
   obtain ⟨k, rfl⟩ : ∃ m, k = m + 1 := ⟨k - 1, by omega⟩
   simp only [besomlaw09_great.l1]
   rw [if_neg (by omega), f1 k _ (by omega)]
theorem great_l0 (l0 : List S25) (l : List ByteArray) : ∀ (d i : Nat) (x5 : Int), i ≤ 100 → 100 - i = d → ∃ b, (∀ k, d + 300 < k → besomlaw09_great.l0 k l0 l x5 (i : Int) = some b) ∧ (b = false → l0.length ≤ 70 ∧ l.length ≤ 70) := by
 have fin : ∀ x5 : Int, ∃ b, (∀ k, 250 < k → besomlaw09_great.j1 k l0 l x5 = some b) ∧ (b = false → l0.length ≤ 70 ∧ l.length ≤ 70) := fun x5 => by
  obtain ⟨b, g1, g2⟩ := great_l1 l0 l x5 100 0 (by omega) (by omega)
  refine ⟨b, fun k hk => ?_, g2⟩
  obtain ⟨k, rfl⟩ : ∃ m, k = m + 1 := ⟨k - 1, by omega⟩
  simp only [besomlaw09_great.j1]
  exact g1 k (by omega)
 intro d
 induction d with
 | zero =>
  intro i x5 h1 h2
  obtain ⟨b0, f1, f2⟩ := fin x5
  refine ⟨b0, fun k hk => ?_, f2⟩
  obtain ⟨k, rfl⟩ : ∃ m, k = m + 1 := ⟨k - 1, by omega⟩
  simp only [besomlaw09_great.l0]
  split
  ·rw [if_neg (by omega), f1 k (by omega)]
  ·rw [f1 k (by omega)]
 | succ d ih =>
  intro i x5 h1 h2
  by_cases hi : (i : Int) < (l0.length : Int)
  ·obtain ⟨b, g1, g2⟩ := ih (i + 1) (wrap64 ((wrap64 ((wrap64 (x5 + (((rd_T25 l0 (i : Int)).f3).length : Int))) + (((rd_T25 l0 (i : Int)).f4).length : Int))) + (wrap64 (Int.tdiv (wrap64 ((((rd_T25 l0 (i : Int)).f0).size : Int) + (((rd_T25 l0 (i : Int)).f5).size : Int))) 50)))) (by omega) (by omega)
   refine ⟨b, fun k hk => ?_, g2⟩
   obtain ⟨k, rfl⟩ : ∃ m, k = m + 1 := ⟨k - 1, by omega⟩
   simp only [besomlaw09_great.l0]
   rw [if_pos hi, if_pos (by omega), if_pos (by omega), wrapN (by omega), g1 k (by omega)]
  ·obtain ⟨b0, f1, f2⟩ := fin x5
   refine ⟨b0, fun k hk => ?_, f2⟩
   obtain ⟨k, rfl⟩ : ∃ m, k = m + 1 := ⟨k - 1, by omega⟩
   simp only [besomlaw09_great.l0]
   rw [if_neg hi, f1 k (by omega)]
theorem great_ex (l0 : List S25) (l : List ByteArray) : ∃ b, (∀ k, 400 < k → besomlaw09_great.f k l0 l = some b) ∧ (b = false → l0.length ≤ 70 ∧ l.length ≤ 70) := by
 obtain ⟨b, g1, g2⟩ := great_l0 l0 l 100 0 (l.length : Int) (by omega) (by omega)
 exact ⟨b, fun k hk => g1 k (by omega), g2⟩
end
section
section
variable {P : Program} {N : Nat} {ds : List Deferred} {Q : Exit → Act → World → Prop} {Pn : List PanicEntry → World → Prop} {ops : List Oper} {l : Slots} {w : World} {K : Slots → World → Prop}
theorem fin (hK : ∀ l' w', (∀ a', Fr N ds l' a' → Q .normal a' w') → K l' w') (l2 : Slots) (hs : Sub l l2) (h : ∀ a', Fr N ds l2 a' → Q .normal a' w) : OpsK P N Pn ops [] l w K := hK _ _ fun a' hf => h a' (hf.sub hs)
end
theorem heap_keep {A B : World} (h : Below A.heap.size A B) {g : Nat} {o : Obj} (hg : A.heap[g]? = some o) : B.heap[g]? = some o := by
 rw [h.block g (Array.getElem?_eq_some_iff.1 hg).1]; exact hg
theorem six_cells {W : World} {g : Nat} {v0 v1 v2 v3 v4 v5 : Value} {T : TypeId} (h : W.heap[g]? = some (.cells #[v0, v1, v2, v3, v4, v5] T (0, 0))) : W.cell? ⟨g, 0, none⟩ = some v0 ∧ W.cell? ⟨g, 1, none⟩ = some v1 ∧ W.cell? ⟨g, 2, none⟩ = some v2 ∧ W.cell? ⟨g, 3, none⟩ = some v3 ∧ W.cell? ⟨g, 4, none⟩ = some v4 ∧ W.cell? ⟨g, 5, none⟩ = some v5 := by
 unfold World.cell?
 simp [h]
theorem one_C (W : World) (g : Nat) (x : S25) (A3 A4 : Option Addr) (c3 c4 : Nat) (hg : W.heap[g]? = some (.cells #[.string x.f0, .int .i64 x.f1, .int .i64 x.f2, .slice A3 x.f3.length c3, .slice A4 x.f4.length c4, .string x.f5] 25 (0, 0)))
  (a3 : Kd.C Kd.string W A3 x.f3.length x.f3) (l3 : x.f3.length ≤ c3) (a4 : Kd.C Kd.string W A4 x.f4.length x.f4) (l4 : x.f4.length ≤ c4) : Kd.C k25 W (some ⟨g, 0, none⟩) [x].length [x] :=
 lit_C k25 W g 25 _ [x] hg (by simp) fun j p hj => by
  have hsz : k25.sz = 6 := rfl
  rw [hsz]
  match j, hj with
  | 0, hj =>
   obtain rfl : x = p := by simpa using hj
   refine ⟨_, rfl, k25_mk W x l3 a3 l4 a4, fun i u hu => ?_⟩
   simpa using hu
  | n + 1, hj => simp at hj
theorem bt {A B C : World} (h : Below A.heap.size A B) (k : Below B.heap.size B C) : Below A.heap.size A C := below_then h h.size k
theorem great_call (A0 : Option Addr) (c0 : Nat) (l0 : List S25) (A1 : Option Addr) (c1 : Nat) (l1 : List ByteArray) (w : World) (hr0 : Kd.C k25 w A0 l0.length l0) (hc0 : l0.length ≤ c0) (hr1 : Kd.C Kd.string w A1 l1.length l1) (hc1 : l1.length ≤ c1) :
  Calls Tryz.prog 10 #[.slice A0 l0.length c0, .slice A1 l1.length c1] w fun e w' => ∃ b, e = .returned (.bool b) ∧ (b = false → l0.length ≤ 70 ∧ l1.length ≤ 70) ∧ Below w.heap.size w w' := by
 obtain ⟨b, g1, g2⟩ := great_ex l0 l1
 exact (besomlaw09_great.calls 401 A0 c0 l0 A1 c1 l1 b w hr0 hc0 hr1 hc1 (g1 401 (by omega))).mono fun e w' ⟨h1, h2⟩ => ⟨b, h1, g2, h2.below⟩
end
section
attribute [local go_sem] slk sget sput uponK_value uponK_skip uponK_enter SteadyRes_value SteadyRes_skip SteadyRes_enter
set_option maxRecDepth 100000 in
set_option maxHeartbeats 4000000 in
theorem books_calls (A0 : Option Addr) (c0 : Nat) (l0 : List S25) (x : S25) (A3 A4 : Option Addr) (c3 c4 : Nat) (a2 : ByteArray) (w : World) (hr0 : Kd.C k25 w A0 l0.length l0) (hc0 : l0.length ≤ c0) (hr3 : Kd.C Kd.string w A3 x.f3.length x.f3) (hc3 : x.f3.length ≤ c3) (hr4 : Kd.C Kd.string w A4 x.f4.length x.f4) (hc4 : x.f4.length ≤ c4) :
  Calls Tryz.prog 3 #[.slice A0 l0.length c0, .agg #[.string x.f0, .int .i64 x.f1, .int .i64 x.f2, .slice A3 x.f3.length c3, .slice A4 x.f4.length c4, .string x.f5], .string a2] w fun e w' => e = .returned (.bool true) ∧ Below w.heap.size w w' := by
 have hu25 := Tryz.underlying25
 have H0 := Aside0.mk hr0
 have H3 := Aside0.mk hr3
 have H4 := Aside0.mk hr4
 obtain ⟨chk, kc, hk1, hk2⟩ : ∃ b k, protest_CheckClause.f x.f0 x.f1 x.f2 x.f3 x.f4 x.f5 = some b ∧ besomref09_CheckClause.f k x.f0 x.f1 x.f2 x.f3 x.f4 x.f5 = some b :=
  ⟨_, x.f3.length + x.f4.length + 42, rfl, CheckClause_eq _ _ _ _ _ _ _ hr3.2.1 hr4.2.1 (by omega)⟩
 obtain ⟨n1, e1, hC⟩ : ∃ n e, protest_Check.f l0 = some (n, e) := ⟨_, _, rfl⟩
 obtain ⟨n2, e2, hL⟩ : ∃ n e, protest_Level.f l0 a2 = some (n, e) := ⟨_, _, rfl⟩
 have K1 := Aside0.mk hk1
 have K2 := Aside0.mk hk2
 have KC := Aside0.mk hC
 have KL := Aside0.mk hL
 clear hr0 hr3 hr4 hk1 hk2 hC hL
 refine callsK (args := [.slice A0 l0.length c0, .agg #[.string x.f0, .int .i64 x.f1, .int .i64 x.f2, .slice A3 x.f3.length c3, .slice A4 x.f4.length c4, .string x.f5], .string a2]) Tryz.func3 rfl Tryz.ntmps3 (by simp) fun a HF => ?_
 replace HF : Fr 75 [] [(0, .slice A0 l0.length c0), (1, .agg #[.string x.f0, .int .i64 x.f1, .int .i64 x.f2, .slice A3 x.f3.length c3, .slice A4 x.f4.length c4, .string x.f5]), (2, .string a2)] a := HF
 refine wpIn_seq (wpIn_region_k (fun _ => trivial) rfl wideC HF fun K hK => ?_)
 repeat (refine OpsK.step rfl rfl rfl ?_; go_simp)
 refine fin hK [(0, .slice A0 l0.length c0), (2, .string a2), (4, .pointer (some ⟨w.heap.size, 0, none⟩))] ⟨rfl, rfl, rfl, trivial⟩ fun a HF => ?_
 clear hK K
 show Code.wpIn _ _ _ _ _ _ (w.alloc (.cells #[.string x.f0, .int .i64 x.f1, .int .i64 x.f2, .slice A3 x.f3.length c3, .slice A4 x.f4.length c4, .string x.f5] 25))
 have hB : Below w.heap.size w (w.alloc (.cells #[.string x.f0, .int .i64 x.f1, .int .i64 x.f2, .slice A3 x.f3.length c3, .slice A4 x.f4.length c4, .string x.f5] 25)) := (Below.refl _ _).alloc (Nat.le_refl _) _
 have hg := World.alloc_heap_new w (.cells #[.string x.f0, .int .i64 x.f1, .int .i64 x.f2, .slice A3 x.f3.length c3, .slice A4 x.f4.length c4, .string x.f5] 25)
 obtain ⟨g, hgg⟩ : ∃ g, g = w.heap.size := ⟨_, rfl⟩
 rw [← hgg] at hg HF
 generalize w.alloc (.cells #[.string x.f0, .int .i64 x.f1, .int .i64 x.f2, .slice A3 x.f3.length c3, .slice A4 x.f4.length c4, .string x.f5] 25) = W1 at hB hg ⊢
 have HB := Aside0.mk hB
 have HG := Aside0.mk hg
 clear hB hg hgg
 refine wpIn_seq (wpIn_seq (wpIn_region_k (fun _ => trivial) rfl wideC HF fun K hK => ?_))
 have HK : ∀ (d : Bool) (l : Slots) (W : World), Sub l [(0, .slice A0 l0.length c0), (2, .string a2), (4, .pointer (some ⟨g, 0, none⟩)), (23, .bool d)] → Below W1.heap.size W1 W → K l W := by
  intro d l W hs hb
  refine hK _ _ fun a hf => ?_
  have HF := hf.sub hs
  have H2 := Aside0.mk hb
  clear hK K hf hs hb
  simp only [Exit.then, Exit.inBlock, ↓reduceIte]
  refine wpIn_cond (HF.tmp rfl) ?_
  cases d
  ·refine wpIn_skip ?_
   simp only [Exit.then, Exit.inBlock, ↓reduceIte]
   refine wpIn_seq (wpIn_region_k (fun _ => trivial) rfl wideC HF fun K hK => ?_)
   repeat (refine OpsK.step rfl rfl rfl ?_; go_simp)
   refine (protest_Check.calls A0 c0 l0 n1 e1 W (Kd.C_below H0.out (bt HB.out H2.out)) hc0 KC.out).mono ?_
   rintro _ W2 ⟨rfl, hb⟩
   have H22 := Aside0.mk (bt H2.out hb)
   clear hb H2
   dsimp only
   repeat (refine OpsK.step rfl rfl rfl ?_; go_simp)
   refine fin hK [(0, .slice A0 l0.length c0), (2, .string a2), (4, .pointer (some ⟨g, 0, none⟩)), (7, .int .i64 n1), (8, .int .i64 e1)] ⟨rfl, rfl, rfl, rfl, rfl, trivial⟩ fun a HF => ?_
   clear hK K
   refine wpIn_seq (wpIn_region_k (fun _ => trivial) rfl wideC HF fun K hK => ?_)
   repeat (refine OpsK.step rfl rfl rfl ?_; go_simp)
   refine (besomref09_Check.calls A0 c0 l0 n1 e1 W2 (Kd.C_below H0.out (bt HB.out H22.out)) hc0 KC.out).mono ?_
   rintro _ W3 ⟨rfl, hb⟩
   have H23 := Aside0.mk (bt H22.out hb)
   clear hb H22
   dsimp only
   repeat (refine OpsK.step rfl rfl rfl ?_; go_simp)
   refine fin hK [(0, .slice A0 l0.length c0), (2, .string a2), (4, .pointer (some ⟨g, 0, none⟩)), (7, .int .i64 n1), (8, .int .i64 e1), (9, .int .i64 n1), (10, .int .i64 e1)] ⟨rfl, rfl, rfl, rfl, rfl, rfl, rfl, trivial⟩ fun a HF => ?_
   clear hK K
   refine wpIn_seq (wpIn_region_k (fun _ => trivial) rfl wideC HF fun K hK => ?_)
   repeat (refine OpsK.step rfl rfl rfl ?_; go_simp)
   refine (protest_Level.calls A0 c0 l0 a2 n2 e2 W3 (Kd.C_below H0.out (bt HB.out H23.out)) hc0 KL.out).mono ?_
   rintro _ W4 ⟨rfl, hb⟩
   have H24 := Aside0.mk (bt H23.out hb)
   clear hb H23
   dsimp only
   repeat (refine OpsK.step rfl rfl rfl ?_; go_simp)
   refine fin hK [(0, .slice A0 l0.length c0), (2, .string a2), (4, .pointer (some ⟨g, 0, none⟩)), (7, .int .i64 n1), (8, .int .i64 e1), (9, .int .i64 n1), (10, .int .i64 e1), (11, .int .i64 n2), (12, .int .i64 e2)] ⟨rfl, rfl, rfl, rfl, rfl, rfl, rfl, rfl, rfl, trivial⟩ fun a HF => ?_
   clear hK K
   refine wpIn_seq (wpIn_region_k (fun _ => trivial) rfl wideC HF fun K hK => ?_)
   repeat (refine OpsK.step rfl rfl rfl ?_; go_simp)
   refine (besomref09_Level.calls A0 c0 l0 a2 n2 e2 W4 (Kd.C_below H0.out (bt HB.out H24.out)) hc0 KL.out).mono ?_
   rintro _ W5 ⟨rfl, hb⟩
   have H25 := Aside0.mk (bt H24.out hb)
   clear hb H24
   dsimp only
   repeat (refine OpsK.step rfl rfl rfl ?_; go_simp)
   refine fin hK [(4, .pointer (some ⟨g, 0, none⟩)), (7, .int .i64 n1), (8, .int .i64 e1), (9, .int .i64 n1), (10, .int .i64 e1), (11, .int .i64 n2), (12, .int .i64 e2), (13, .int .i64 n2), (14, .int .i64 e2)] ⟨rfl, rfl, rfl, rfl, rfl, rfl, rfl, rfl, rfl, trivial⟩ fun a HF => ?_
   clear hK K
   refine wpIn_seq (wpIn_region_S (by kernel_rfl) HF (fun W => Below W1.heap.size W1 W) (bt H25.out ⟨rfl, rfl, rfl, Nat.le_refl _, fun _ _ => rfl⟩) (by kernel_rfl) fun K hK => ?_)
   apply ChainC.val; rfl; rfl; rfl; (intro V hV; obtain ⟨q0, q1, q2, q3, q4, q5⟩ := six_cells (heap_keep hV HG.out); have HV := Aside0.mk hV; clear hV; go_simp; exact ⟨rfl, HV.out⟩)
   apply ChainC.val; rfl; rfl; rfl; (intro V hV; have HV := Aside0.mk hV; clear hV; go_simp; exact (protest_CheckClause.calls _ _ _ A3 c3 x.f3 A4 c4 x.f4 _ chk _ (Kd.C_below H3.out (bt HB.out HV.out)) hc3 (Kd.C_below H4.out (bt HB.out HV.out)) hc4 K1.out).mono fun _ _ h => ⟨h.1, bt HV.out h.2⟩)
   apply ChainC.val; rfl; rfl; rfl; (intro V hV; obtain ⟨q0, q1, q2, q3, q4, q5⟩ := six_cells (heap_keep hV HG.out); have HV := Aside0.mk hV; clear hV; go_simp; exact ⟨rfl, HV.out⟩)
   apply ChainC.val; rfl; rfl; rfl; (intro V hV; have HV := Aside0.mk hV; clear hV; go_simp; exact (besomref09_CheckClause.calls kc _ _ _ A3 c3 x.f3 A4 c4 x.f4 _ chk _ (Kd.C_below H3.out (bt HB.out HV.out)) hc3 (Kd.C_below H4.out (bt HB.out HV.out)) hc4 K2.out).mono fun _ _ h => ⟨h.1, bt HV.out h.2⟩)
   iterate 22 (apply ChainC.val; rfl; rfl; rfl; (intro V hV; have HV := Aside0.mk hV; clear hV; go_simp; exact ⟨rfl, HV.out⟩))
   apply ChainC.val; rfl; rfl; rfl; (intro V hV; have HV := Aside0.mk hV; clear hV; go_simp; exact (awake_true _).mono fun _ _ h => ⟨h.1, bt HV.out h.2⟩)
   iterate 2 (apply ChainC.val; rfl; rfl; rfl; (intro V hV; have HV := Aside0.mk hV; clear hV; go_simp; exact ⟨rfl, HV.out⟩))
   refine ChainC.nil (hK _ fun a W hf hS => ?_)
   exact wpIn_ret ((hf.sub (l' := [(6, .bool true)]) ⟨rfl, trivial⟩).ret1 rfl rfl ⟨rfl, bt HB.out hS⟩)
  ·refine wpIn_seq (wpIn_region_k (fun _ => trivial) rfl wideC HF fun K hK => ?_)
   repeat (refine OpsK.step rfl rfl rfl ?_; go_simp)
   refine (awake_true W).mono ?_
   rintro _ W5 ⟨rfl, hb⟩
   have H25 := Aside0.mk (bt H2.out hb)
   clear hb H2
   dsimp only
   repeat (refine OpsK.step rfl rfl rfl ?_; go_simp)
   refine fin hK [(6, .bool true)] ⟨rfl, trivial⟩ fun a HF => ?_
   refine wpIn_ret ?_
   simp only [Exit.then, ↓reduceIte]
   exact HF.ret1 rfl rfl ⟨rfl, bt HB.out H25.out⟩
 clear hK
 repeat (refine OpsK.step rfl rfl rfl ?_; go_simp)
 refine (great_call A0 c0 l0 (some ⟨W1.heap.size, 0, none⟩) 1 [a2] _ (Kd.C_below H0.out (bt HB.out ((Below.refl _ W1).alloc (Nat.le_refl _) _))) hc0 (str_C _ _ [a2] (World.alloc_heap_new W1 _) (by simp)) (by simp)).mono ?_
 rintro _ W2 ⟨b, rfl, -, hb⟩
 have H2 := Aside0.mk (bt ((Below.refl _ W1).alloc (Nat.le_refl _) _) hb)
 clear hb
 dsimp only
 cases b
 ·obtain ⟨q0, q1, q2, q3, q4, q5⟩ := six_cells (heap_keep H2.out HG.out)
  repeat (refine OpsK.step rfl rfl rfl ?_; go_simp)
  clear q0 q1 q2 q3 q4 q5
  refine (great_call (some ⟨W2.heap.size, 0, none⟩) 1 [x] none 0 [] _ (one_C _ _ x A3 A4 c3 c4 (World.alloc_heap_new W2 _) (Kd.C_below H3.out (bt HB.out (bt H2.out ((Below.refl _ W2).alloc (Nat.le_refl _) _)))) hc3 (Kd.C_below H4.out (bt HB.out (bt H2.out ((Below.refl _ W2).alloc (Nat.le_refl _) _)))) hc4) (by simp) (nil_C _) (Nat.le_refl _)).mono ?_
  rintro _ W3 ⟨d, rfl, -, hb⟩
  have H33 := Aside0.mk (bt H2.out (bt ((Below.refl _ W2).alloc (Nat.le_refl _) _) hb))
  clear hb
  dsimp only
  repeat (refine OpsK.step rfl rfl rfl ?_; go_simp)
  exact HK _ _ _ ⟨rfl, rfl, rfl, rfl, trivial⟩ H33.out
 ·repeat (first | (refine OpsK.step rfl rfl rfl ?_; go_simp) | refine OpsK.skip rfl rfl ?_)
  exact HK _ _ _ ⟨rfl, rfl, rfl, rfl, trivial⟩ H2.out
end
section
section
variable {H : Type} {enc : TypeId × Value → H} {w : World} {base : Nat} {spare : Nat → Bool} {held : Bool} {fuel : Nat} {cs : List Value} {x : DataW H × List MemPlace}
theorem open_S {t : TypeId} (ht : Tryz.prog.underlying t = some (.slice 9)) (h : DataW.trod enc Tryz.prog w base spare held fuel t cs = some x) : ∃ A l c, cs = [.slice A (l : List ByteArray).length c] ∧ l.length ≤ c ∧ Kd.C Kd.string w A l.length l := by
 rcases Go.Deep.open_strs ht Tryz.underlying9 (by kernel_rfl) h with ⟨rfl, _⟩ | ⟨a, len, cap, m, Sx, rfl, _, hl, hm, hmm, _, hc⟩
 ·exact ⟨none, [], 0, rfl, Nat.le_refl _, rfl, by decide, fun h => absurd h (by decide)⟩
 ·have hlm : len ≤ m := by rw [hmm]; split <;> omega
  refine ⟨some a, (List.range len).map Sx, cap, by simp, by simpa using hl, rfl, by simp only [List.length_map, List.length_range, maxLen] at *; omega, fun _ => ⟨a, rfl, fun j p hj => ⟨[.string p], rfl, rfl, fun i u hu => ?_⟩⟩⟩
  obtain ⟨hjl, rfl⟩ : j < len ∧ p = Sx j := by
   rw [List.getElem?_map] at hj
   obtain ⟨q, hq, rfl⟩ := Option.map_eq_some_iff.1 hj
   obtain ⟨h1, h2⟩ := List.getElem?_eq_some_iff.1 hq
   simp only [List.length_range] at h1
   rw [List.getElem_range] at h2
   subst h2
   exact ⟨h1, rfl⟩
  cases i with
  | succ n => simp at hu
  | zero =>
   simp at hu
   subst hu
   show w.cell? (a.add (j * 1 + 0)) = _
   rw [Nat.mul_one, Nat.add_zero]
   exact (hc j (by omega)).1
set_option maxRecDepth 100000 in
theorem open_cl (h : DataW.trod enc Tryz.prog w base spare held fuel 25 cs = some x) : ∃ y : S25, k25.K w y cs := by
 obtain ⟨xs, n, _, _, hl, hlen, hf⟩ := DataW.trod_struct Tryz.underlying25 h
 have hl6 : cs.length = 6 := hl.trans (by kernel_rfl)
 have e9 : Tryz.prog.cellsOf 9 = 1 := by kernel_rfl
 have e3 : Tryz.prog.cellsOf 3 = 1 := by kernel_rfl
 have e23 : Tryz.prog.cellsOf 23 = 1 := by kernel_rfl
 have hx6 : xs.length = 6 := hlen
 match cs, hl6 with
 | [v0, v1, v2, v3, v4, v5], _ =>
  match xs, hx6 with
  | [y0, y1, y2, y3, y4, y5], _ =>
   have f0 := hf 0 _ rfl
   have f1 := hf 1 _ rfl
   have f2 := hf 2 _ rfl
   have f3 := hf 3 _ rfl
   have f4 := hf 4 _ rfl
   have f5 := hf 5 _ rfl
   simp only [e9, e3, e23, List.drop_zero, List.drop_succ_cons, List.take_succ_cons, List.take_zero, List.getElem?_cons_zero, List.getElem?_cons_succ] at f0 f1 f2 f3 f4 f5
   obtain ⟨s0, g0, _⟩ := DataW.trod_string Tryz.underlying9 f0
   obtain ⟨n1, g1, _⟩ := DataW.trod_int Tryz.underlying3 f1
   obtain ⟨n2, g2, _⟩ := DataW.trod_int Tryz.underlying3 f2
   obtain ⟨A3, l3, c3, g3, h3, q3⟩ := open_S Tryz.underlying23 f3
   obtain ⟨A4, l4, c4, g4, h4, q4⟩ := open_S Tryz.underlying23 f4
   obtain ⟨s5, g5, _⟩ := DataW.trod_string Tryz.underlying9 f5
   cases g0; cases g1; cases g2; cases g3; cases g4; cases g5
   exact ⟨⟨s0, n1, n2, l3, l4, s5⟩, k25_mk w ⟨s0, n1, n2, l3, l4, s5⟩ h3 q3 h4 q4⟩
theorem open_book {t : TypeId} (ht : Tryz.prog.underlying t = some (.slice 25)) (h : DataW.trod enc Tryz.prog w base spare held fuel t cs = some x) : ∃ A l c, cs = [.slice A (l : List S25).length c] ∧ l.length ≤ c ∧ Kd.C k25 w A l.length l := by
 rcases Go.Deep.open_slice ht h with ⟨rfl, _⟩ | ⟨a, len, cap, m, n, D, Pl, rfl, _, hl, hm, hmm, _, hc⟩
 ·exact ⟨none, [], 0, rfl, Nat.le_refl _, rfl, by decide, fun h => absurd h (by decide)⟩
 ·have hlm : len ≤ m := by rw [hmm]; split <;> omega
  have e25 : Tryz.prog.cellsOf 25 = 6 := by kernel_rfl
  have each : ∀ i, i < m → ∃ y : S25, ∃ cs', cs'.length = 6 ∧ k25.K w y cs' ∧ ∀ j, j < 6 → w.cell? ((a.add (i * 6)).add j) = cs'[j]? := fun i hi => by
   obtain ⟨cs', h1, h2⟩ := hc i hi
   rw [e25] at h1
   obtain ⟨_, h3, h4⟩ := World.cells?_some h1
   obtain ⟨y, hy⟩ := open_cl h2
   exact ⟨y, cs', h3, hy, h4⟩
  have : ∃ Y : Nat → S25, ∀ i, i < m → ∃ cs', cs'.length = 6 ∧ k25.K w (Y i) cs' ∧ ∀ j, j < 6 → w.cell? ((a.add (i * 6)).add j) = cs'[j]? := by
   refine ⟨fun i => if h : i < m then (each i h).choose else z25, fun i hi => ?_⟩
   simp only [hi, dif_pos]
   exact (each i hi).choose_spec
  obtain ⟨Y, hY⟩ := this
  refine ⟨some a, (List.range len).map Y, cap, by simp, by simpa using hl, rfl, by simp only [List.length_map, List.length_range, maxLen] at *; omega, fun _ => ⟨a, rfl, fun j p hj => ?_⟩⟩
  obtain ⟨hjl, rfl⟩ : j < len ∧ p = Y j := by
   rw [List.getElem?_map] at hj
   obtain ⟨q, hq, rfl⟩ := Option.map_eq_some_iff.1 hj
   obtain ⟨h1, h2⟩ := List.getElem?_eq_some_iff.1 hq
   simp only [List.length_range] at h1
   rw [List.getElem_range] at h2
   subst h2
   exact ⟨h1, rfl⟩
  obtain ⟨cs', h1, h2, h3⟩ := hY j (by omega)
  refine ⟨cs', h1, h2, fun i u hu => ?_⟩
  have hi6 : i < 6 := by have := (List.getElem?_eq_some_iff.1 hu).1; omega
  have := h3 i hi6
  rw [hu] at this
  rw [← this]
  show w.cell? (a.add (j * 6 + i)) = w.cell? ((a.add (j * 6)).add i)
  rw [Go.Addr.add_add]
end
end
section
theorem agg_of {v : Value} {l : List Value} (h : v.cells.toList = l) (h2 : 2 ≤ l.length) : v = .agg l.toArray := by
 subst h
 cases v <;> simp_all [Value.cells]
section
variable {H : Type} {enc : TypeId × Value → H} {w : World} {base : Nat} {spare : Nat → Bool} {held : Bool} {v : Value} {d : DataW H} {p : List MemPlace}
theorem open_clause (h : DataW.Trod enc Tryz.prog w base spare held 25 v d p) : ∃ (x : S25) (A3 A4 : Option Addr) (c3 c4 : Nat), v = .agg #[.string x.f0, .int .i64 x.f1, .int .i64 x.f2, .slice A3 x.f3.length c3, .slice A4 x.f4.length c4, .string x.f5] ∧
  Kd.C Kd.string w A3 x.f3.length x.f3 ∧ x.f3.length ≤ c3 ∧ Kd.C Kd.string w A4 x.f4.length x.f4 ∧ x.f4.length ≤ c4 := by
 obtain ⟨fuel, hf⟩ := h
 obtain ⟨y, hy⟩ := open_cl hf
 obtain ⟨A3, c3, A4, c4, e, l3, g3, l4, g4⟩ := k25_open hy
 exact ⟨y, A3, A4, c3, c4, agg_of e (by simp), g3, l3, g4, l4⟩
end
end
end Go.Proofs.YtlhkeohcickiaaaGreatDoor.E
namespace Go.Proofs.YtlhkeohcickiaaaGreatDoor.protestBooks
open Go.ChangeShapes Go.WideShapes Go.ChangeAt Go.RowKit Go.Proofs.YtlhkeohcickiaaaGreatDoor.E Go.Proofs.YtlhkeohcickiaaaGreatDoorW.PrintWords Go.Proofs.YtlhkeohcickiaaaGreatDoorW.PrintLast Go.Proofs.YtlhkeohcickiaaaGreatDoorW.PrintMore
open Go.ChangeMaps (open_string shut_string)
theorem own : ownKnob Tryz.prog.godebug = none := by kernel_rfl
theorem laidOut : laidOutB Tryz.prog = true := by kernel_rfl
set_option maxRecDepth 100000 in
theorem lifted (os : Os) (started : os.Started) (H : Type) (enc : TypeId × Value → H) :
  ReturnsInHanded {} Tryz.checked os 3 .any (fun w args => (Rows.protestBooksSpec.pre enc Tryz.prog Tryz.f3 Rows.protestBooksRow.domain false w args ∧ laidMetH Tryz.prog Rows.protestBooksRow.laid w) ∧ sizedMet enc Tryz.prog Tryz.f3 (OpenSpec.ofChange Rows.protestBooksSpec) false w args)
   (Rows.protestBooksSpec.post enc Tryz.prog Tryz.f3 false true false false) := by
 refine returnsInHanded_of_change_and (C := Tryz.checked) (X := fun w _ => laidMetH Tryz.prog Rows.protestBooksRow.laid w) (fun _ _ _ hh h => h.of_heap hh) own started (by kernel_rfl) Tryz.func3
  (ChangeSpec.witness_shaped (enc := enc) (C := Tryz.checked) (os := os) (X := fun w _ => laidMetH Tryz.prog Rows.protestBooksRow.laid w) false (World.laidAll Tryz.prog os Rows.protestBooksRow.laid) #[.slice none 0 0, .agg #[.string ByteArray.empty, .int .i64 0, .int .i64 0, .slice none 0 0, .slice none 0 0, .string ByteArray.empty], .string ByteArray.empty] 8 (World.laidAll_os _ _ _)
   (World.shaped_of_ZipB (by kernel_rfl) (by kernel_rfl)) (by kernel_rfl) (by kernel_rfl) (by kernel_rfl)
   (by rw [MakeChecks.laidMetH_plain _ _ _ (by kernel_rfl)]; exact laidMet_laidAll _ (by kernel_rfl) (by kernel_rfl))) ?_
 intro W base args ds gs before hval0 hW hc _ hL _
 have hval : ∀ (j : Nat) t v, Tryz.f3.params[j]? = some t → args[j]? = some v → Value.okWide Tryz.prog W .any base t v := hval0
 have hW' := hW
 obtain ⟨p, q, hA0, hV, rfl, hfz, hnd⟩ := hW
 have hA : DataW.TrodAll enc Tryz.prog W 0 (fun _ => true) true Tryz.f3.params.toList args.toList ds p := hA0
 rw [Tryz.params3] at hA hval
 obtain ⟨v0, vs0, d0, ds0, p0, q0, hargs, rfl, rfl, h0, r0⟩ := trodAll_cons hA
 obtain ⟨v1, vs1, d1, ds1, p1, q1, rfl, rfl, rfl, h1, r1⟩ := trodAll_cons r0
 obtain ⟨v2, vs2, d2, ds2, p2, q2, rfl, rfl, rfl, h2, r2⟩ := trodAll_cons r1
 obtain ⟨rfl, rfl, rfl⟩ := trodAll_nil r2
 obtain rfl : args = #[v0, v1, v2] := by cases args; simp_all
 obtain ⟨rfl, rfl⟩ := trodVars_none hV
 obtain ⟨a0, len0, cap0, rfl⟩ := okWide_slice Tryz.underlying22 (hval 0 22 v0 rfl rfl)
 have k0 := h0
 have lt0 : ∀ x ∈ p0, x.block < W.heap.size := by obtain ⟨m, hm⟩ := k0; exact DataW.trod_lt m _ _ _ hm
 obtain ⟨l0, e0, c0, w0⟩ : ∃ l : List S25, len0 = l.length ∧ l.length ≤ cap0 ∧ Kd.C k25 W a0 l.length l := by
  obtain ⟨fuel, hf⟩ := h0
  obtain ⟨A, l, c, hcs, hl, hC⟩ := open_book Tryz.underlying22 hf
  simp [Value.cells] at hcs
  obtain ⟨rfl, rfl, rfl⟩ := hcs
  exact ⟨l, rfl, hl, hC⟩
 subst e0
 have k1 := h1
 have lt1 : ∀ x ∈ p1, x.block < W.heap.size := by obtain ⟨m, hm⟩ := k1; exact DataW.trod_lt m _ _ _ hm
 obtain ⟨x1, B1, D1, b1, d1, rfl, w1, c1, w1b, c1b⟩ := open_clause h1
 obtain ⟨a2, rfl, rfl, rfl, y2⟩ := open_string Tryz.underlying9 (hval 2 9 v2 rfl rfl) h2
 clear hA0 hval0
 refine (books_calls a0 cap0 l0 x1 B1 D1 b1 d1 a2 W w0 c0 w1 c1 w1b c1b).mono fun e W' ⟨he, bel⟩ => ?_
 subst he
 exact ⟨_, rfl, _, _, _, [], _, [], hW', trodAll_mk1 (shut_bool Tryz.underlying4 _), (trodAll_cons_mk (Below.trod laidOut (by kernel_rfl) (of_decide_eq_true (by kernel_rfl)) k0 bel lt0) (trodAll_cons_mk (Below.trod laidOut (by kernel_rfl) (of_decide_eq_true (by kernel_rfl)) k1 bel lt1) (trodAll_cons_mk (shut_string Tryz.underlying9 y2) trodAll_mk0))), rfl, bel.frame _, fun h => by cases h⟩
theorem over : Rows.protestBooksRow.holds Tryz.pinned (OpenSpec.ofChange Rows.protestBooksSpec) :=
 OpenClaim.holds_of_wide 3 Tryz.f3 rfl rfl rfl rfl rfl rfl rfl ⟨rfl, rfl, rfl, rfl, rfl⟩ rfl rfl rfl rfl rfl (by kernel_rfl) Tryz.func3 (by kernel_rfl)
  (of_decide_eq_true (by kernel_rfl)) (by unfold Func.isWrapper; first | (rw [if_pos (by decide +kernel)]; kernel_rfl) | (rw [if_neg (by decide +kernel)]; exact ⟨rfl, rfl⟩))
  (fun os started H enc _ => lifted os started H enc)
theorem proved : Rows.ProtestBooksSaid := over
theorem carded : Rows.ProtestBooksCardSaid :=
 Claim7.holds_tied_plain_at .later [] [.data, .pinned] true (true, "98843cd4e3891271ebdf8b02a3300920f08920e848e48566e9e63e5fe3d60fc8") true proved (fun _ h => by cases h) (by kernel_rfl) (fun _ h => by cases h) protestBooks_row_tie rfl ⟨rfl, rfl⟩ (by kernel_rfl) rfl
  (fun f fn hf hfn => by
   obtain rfl : f = 3 := Option.some.inj ((show Tryz.prog.funcNamed "besom/besomlaw09.ProtestBooks" = some 3 by kernel_rfl).symm.trans hf) |>.symm
   obtain rfl : fn = Tryz.f3 := (Option.some.inj (Tryz.func3.symm.trans hfn)).symm
   exact ⟨by kernel_rfl, fun j t ht => by
    rw [Tryz.params3] at ht
    have hm : t ∈ [22, 25, 9] := by simpa using Array.mem_of_getElem? ht
    have hall : ([22, 25, 9].all fun u => !Tryz.prog.wantsStandIn u) = true := by kernel_rfl
    exact (show Tryz.prog.wantsStandIn t = false by simpa using List.all_eq_true.1 hall t hm)⟩)
  (by kernel_rfl)
end Go.Proofs.YtlhkeohcickiaaaGreatDoor.protestBooks
namespace Go.Proofs.YtlhkeohcickiaaaGreatDoor
theorem protestBooks_card : Rows.ProtestBooksCardSaid := protestBooks.carded
end Go.Proofs.YtlhkeohcickiaaaGreatDoor

