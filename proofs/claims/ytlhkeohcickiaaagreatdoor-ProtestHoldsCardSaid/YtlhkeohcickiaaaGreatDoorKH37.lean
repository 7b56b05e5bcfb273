/- Lemmas for ProtestHolds. -/
import Derived.Test.YtlhkeohcickiaaaGreatDoorKH32
import Derived.Test.YtlhkeohcickiaaaGreatDoorKH15
import Derived.Test.YtlhkeohcickiaaaGreatDoorKH33
import Derived.Test.YtlhkeohcickiaaaGreatDoorKH17
import Derived.Test.YtlhkeohcickiaaaGreatDoorKH31
import Derived.Test.YtlhkeohcickiaaaGreatDoorKH29
import Derived.Test.YtlhkeohcickiaaaGreatDoorKH30
import Derived.Test.YtlhkeohcickiaaaGreatDoorKH28
import Derived.Test.YtlhkeohcickiaaaGreatDoorKH18
import Derived.WalkSpells
import Derived.Test.YtlhkeohcickiaaaGreatDoorKH27
import Derived.IntWalk
set_option linter.all false
namespace Go.Proofs.YtlhkeohcickiaaaGreatDoor.E
open Go.RowKit Go.Proofs.YtlhkeohcickiaaaGreatDoor.H Go.Proofs.YtlhkeohcickiaaaGreatDoorW.PrintWords Go.Proofs.YtlhkeohcickiaaaGreatDoorW.PrintLast Go.Proofs.YtlhkeohcickiaaaGreatDoorW.PrintMore
section
open Prot (heldOf derive proveL at_ stepOk)
theorem wrapN {i : Nat} (h : i < 9223372036854775807) : wrap64 ((i : Int) + 1) = ((i + 1 : Nat) : Int) := by rw [wrap64_of (by omega) (by omega)]; omega
end
section
open Prot (heldOf derive proveL at_ stepOk)
theorem ok_lens {l0 : List S25} {m : List (ByteArray × Nat)} (h : boundOf l0 = .ok m) : ∀ x ∈ l0, x.f3.length ≤ 8 ∧ x.f4.length ≤ 8 := fun x hx => by
 have := ok_parts ((okBook h).ok x hx)
 exact ⟨this.2.2.1.1, this.2.2.2.1⟩
theorem great_l1 (l0 : List S25) (l : List ByteArray) (x5 : Int) : ∀ (d i : Nat), i ≤ 100 → 100 - i = d → ∃ b, (∀ k, 2 * d + 4 < k → besomlaw09_great.l1 k l0 l x5 (i : Int) = some b) ∧ (b = false → l0.length ≤ 70 ∧ l.length ≤ 70) := by
 have fin : ∃ b, (∀ k i, 0 < k → besomlaw09_great.j3 k l0 l x5 i false = some b) ∧ (b = false → l0.length ≤ 70 ∧ l.length ≤ 70) := by
  by_cases h1 : (l0.length : Int) > 70
  ·refine ⟨true, fun k i hk => ?_, by simp⟩
   obtain ⟨k, rfl⟩ : ∃ m, k = m + 1 := ⟨k - 1, by omega⟩
   simp only [besomlaw09_great.j3]
   rw [if_neg (by decide), if_pos h1]
  ·by_cases h2 : (l.length : Int) > 70
   ·refine ⟨true, fun k i hk => ?_, by simp⟩
    obtain ⟨k, rfl⟩ : ∃ m, k = m + 1 := ⟨k - 1, by omega⟩
    simp only [besomlaw09_great.j3]
    rw [if_neg (by decide), if_neg h1, if_pos h2]
   ·refine ⟨decide (x5 > 300), fun k i hk => ?_, fun _ => by omega⟩
    obtain ⟨k, rfl⟩ : ∃ m, k = m + 1 := ⟨k - 1, by omega⟩
    simp only [besomlaw09_great.j3]
    rw [if_neg (by decide), if_neg h1, if_neg h2]
 obtain ⟨b0, f1, f2⟩ := fin
 intro d
 induction d with
 | zero =>
  intro i h1 h2
  refine ⟨b0, fun k hk => ?_, f2⟩
  obtain ⟨k, rfl⟩ : ∃ m, k = m + 1 := ⟨k - 1, by omega⟩
  simp only [besomlaw09_great.l1]
  split
  ·rw [show decide ((i : Int) < 100) = false from decide_eq_false (by omega), f1 k _ (by omega)]
  ·rw [f1 k _ (by omega)]
 | succ d ih =>
  intro i h1 h2
  by_cases hi : i < l.length
  ·by_cases hz : ((rdOf ByteArray.empty l (i : Int)).size : Int) > 100
   ·refine ⟨true, fun k hk => ?_, by simp⟩
    obtain ⟨k, rfl⟩ : ∃ m, k = m + 2 := ⟨k - 2, by omega⟩
    simp only [besomlaw09_great.l1]
    rw [if_pos (by omega), show decide ((i : Int) < 100) = true from decide_eq_true (by omega)]
    simp only [besomlaw09_great.j3]
    simp only [↓reduceIte]
    rw [if_pos (by omega), if_pos (by omega), if_pos hz]
   ·obtain ⟨b, g1, g2⟩ := ih (i + 1) (by omega) (by omega)
    refine ⟨b, fun k hk => ?_, g2⟩
    obtain ⟨k, rfl⟩ : ∃ m, k = m + 2 := ⟨k - 2, by omega⟩
    simp only [besomlaw09_great.l1]
    rw [if_pos (by omega), show decide ((i : Int) < 100) = true from decide_eq_true (by omega)]
    simp only [besomlaw09_great.j3]
    simp only [↓reduceIte]
    rw [if_pos (by omega), if_pos (by omega), if_neg hz, wrapN (by omega), g1 k (by omega)]
  ·refine ⟨b0, fun k hk => ?_, f2⟩
   obtain ⟨k, rfl⟩ : ∃ m, k = m + 1 := ⟨k - 1, by omega⟩
   simp only [besomlaw09_great.l1]
   rw [if_neg (by omega), f1 k _ (by omega)]
theorem great_l0 (l0 : List S25) (l : List ByteArray) : ∀ (d i : Nat) (x5 : Int), i ≤ 100 → 100 - i = d → ∃ b, (∀ k, d + 300 < k → besomlaw09_great.l0 k l0 l x5 (i : Int) = some b) ∧ (b = false → l0.length ≤ 70 ∧ l.length ≤ 70) := by
 have fin : ∀ x5 : Int, ∃ b, (∀ k, 250 < k → besomlaw09_great.j1 k l0 l x5 = some b) ∧ (b = false → l0.length ≤ 70 ∧ l.length ≤ 70) := fun x5 => by
  obtain ⟨b, g1, g2⟩ := great_l1 l0 l x5 100 0 (by omega) (by omega)
  refine ⟨b, fun k hk => ?_, g2⟩
  obtain ⟨k, rfl⟩ : ∃ m, k = m + 1 := ⟨k - 1, by omega⟩
  simp only [besomlaw09_great.j1]
  exact g1 k (by omega)
 intro d
 induction d with
 | zero =>
  intro i x5 h1 h2
  obtain ⟨b0, f1, f2⟩ := fin x5
  refine ⟨b0, fun k hk => ?_, f2⟩
  obtain ⟨k, rfl⟩ : ∃ m, k = m + 1 := ⟨k - 1, by omega⟩
  simp only [besomlaw09_great.l0]
  split
  ·rw [if_neg (by omega), f1 k (by omega)]
  ·rw [f1 k (by omega)]
 | succ d ih =>
  intro i x5 h1 h2
  by_cases hi : (i : Int) < (l0.length : Int)
  ·obtain ⟨b, g1, g2⟩ := ih (i + 1) (wrap64 ((wrap64 ((wrap64 (x5 + (((rd_T25 l0 (i : Int)).f3).length : Int))) + (((rd_T25 l0 (i : Int)).f4).length : Int))) + (wrap64 (Int.tdiv (wrap64 ((((rd_T25 l0 (i : Int)).f0).size : Int) + (((rd_T25 l0 (i : Int)).f5).size : Int))) 50)))) (by omega) (by omega)
   refine ⟨b, fun k hk => ?_, g2⟩
   obtain ⟨k, rfl⟩ : ∃ m, k = m + 1 := ⟨k - 1, by omega⟩
   simp only [besomlaw09_great.l0]
   rw [if_pos hi, if_pos (by omega), if_pos (by omega), wrapN (by omega), g1 k (by omega)]
  ·obtain ⟨b0, f1, f2⟩ := fin x5
   refine ⟨b0, fun k hk => ?_, f2⟩
   obtain ⟨k, rfl⟩ : ∃ m, k = m + 1 := ⟨k - 1, by omega⟩
   simp only [besomlaw09_great.l0]
   rw [if_neg hi, f1 k (by omega)]
theorem great_ex (l0 : List S25) (l : List ByteArray) : ∃ b, (∀ k, 400 < k → besomlaw09_great.f k l0 l = some b) ∧ (b = false → l0.length ≤ 70 ∧ l.length ≤ 70) := by
 obtain ⟨b, g1, g2⟩ := great_l0 l0 l 100 0 (l.length : Int) (by omega) (by omega)
 exact ⟨b, fun k hk => g1 k (by omega), g2⟩
end
section
section
variable {P : Program} {N : Nat} {ds : List Deferred} {Q : Exit → Act → World → Prop} {Pn : List PanicEntry → World → Prop} {ops : List Oper} {l : Slots} {w : World} {K : Slots → World → Prop}
theorem fin (hK : ∀ l' w', (∀ a', Fr N ds l' a' → Q .normal a' w') → K l' w') (l2 : Slots) (hs : Sub l l2) (h : ∀ a', Fr N ds l2 a' → Q .normal a' w) : OpsK P N Pn ops [] l w K := hK _ _ fun a' hf => h a' (hf.sub hs)
end
theorem heap_keep {A B : World} (h : Below A.heap.size A B) {g : Nat} {o : Obj} (hg : A.heap[g]? = some o) : B.heap[g]? = some o := by
 rw [h.block g (Array.getElem?_eq_some_iff.1 hg).1]; exact hg
theorem six_cells {W : World} {g : Nat} {v0 v1 v2 v3 v4 v5 : Value} {T : TypeId} (h : W.heap[g]? = some (.cells #[v0, v1, v2, v3, v4, v5] T (0, 0))) : W.cell? ⟨g, 0, none⟩ = some v0 ∧ W.cell? ⟨g, 1, none⟩ = some v1 ∧ W.cell? ⟨g, 2, none⟩ = some v2 ∧ W.cell? ⟨g, 3, none⟩ = some v3 ∧ W.cell? ⟨g, 4, none⟩ = some v4 ∧ W.cell? ⟨g, 5, none⟩ = some v5 := by
 unfold World.cell?
 simp [h]
theorem two_cells {W : World} {g : Nat} {v0 v1 : Value} {T : TypeId} (h : W.heap[g]? = some (.cells #[v0, v1] T (0, 0))) : W.cell? ⟨g, 0, none⟩ = some v0 ∧ W.cell? ⟨g, 1, none⟩ = some v1 := by
 unfold World.cell?
 simp [h]
theorem at_later {w W : World} {A : Option Addr} {n : Nat} {xs : List S25} (h : Kd.C k25 w A n xs) (hb : Below w.heap.size w W) (i : Int) (h0 : 0 ≤ i) (h1 : i < n) : ∃ ad A3 c3 A4 c4, A = some ad ∧ W.cell? (ad.add (i.toNat * 6)) = some (.string (rd_T25 xs i).f0) ∧ W.cell? ⟨(ad.add (i.toNat * 6)).block, (ad.add (i.toNat * 6)).off + 1, none⟩ = some (.int .i64 (rd_T25 xs i).f1) ∧ W.cell? ⟨(ad.add (i.toNat * 6)).block, (ad.add (i.toNat * 6)).off + 2, none⟩ = some (.int .i64 (rd_T25 xs i).f2) ∧
  W.cell? ⟨(ad.add (i.toNat * 6)).block, (ad.add (i.toNat * 6)).off + 3, none⟩ = some (.slice A3 (rd_T25 xs i).f3.length c3) ∧ W.cell? ⟨(ad.add (i.toNat * 6)).block, (ad.add (i.toNat * 6)).off + 4, none⟩ = some (.slice A4 (rd_T25 xs i).f4.length c4) ∧ W.cell? ⟨(ad.add (i.toNat * 6)).block, (ad.add (i.toNat * 6)).off + 5, none⟩ = some (.string (rd_T25 xs i).f5) ∧
  (rd_T25 xs i).f3.length ≤ c3 ∧ Kd.string.C w A3 (rd_T25 xs i).f3.length (rd_T25 xs i).f3 ∧ (rd_T25 xs i).f4.length ≤ c4 ∧ Kd.string.C w A4 (rd_T25 xs i).f4.length (rd_T25 xs i).f4 := by
 obtain ⟨ad, A3, c3, A4, c4, e, x0, x1, x2, x3, x4, x5, l3, g3, l4, g4⟩ := at_T25 h i h0 h1
 exact ⟨ad, A3, c3, A4, c4, e, cell_later hb x0, cell_later hb x1, cell_later hb x2, cell_later hb x3, cell_later hb x4, cell_later hb x5, l3, g3, l4, g4⟩
theorem bt {A B C : World} (h : Below A.heap.size A B) (k : Below B.heap.size B C) : Below A.heap.size A C := below_then h h.size k
theorem bd {A B C : World} (h : Below A.heap.size A B) (k : Drawn0 B C) : Below A.heap.size A C := below_then h h.size k.below
theorem great_call (A0 : Option Addr) (c0 : Nat) (l0 : List S25) (A1 : Option Addr) (c1 : Nat) (l1 : List ByteArray) (w : World) (hr0 : Kd.C k25 w A0 l0.length l0) (hc0 : l0.length ≤ c0) (hr1 : Kd.C Kd.string w A1 l1.length l1) (hc1 : l1.length ≤ c1) :
  Calls Tryz.prog 10 #[.slice A0 l0.length c0, .slice A1 l1.length c1] w fun e w' => ∃ b, e = .returned (.bool b) ∧ (b = false → l0.length ≤ 70 ∧ l1.length ≤ 70) ∧ Below w.heap.size w w' := by
 obtain ⟨b, g1, g2⟩ := great_ex l0 l1
 exact (besomlaw09_great.calls 401 A0 c0 l0 A1 c1 l1 b w hr0 hc0 hr1 hc1 (g1 401 (by omega))).mono fun e w' ⟨h1, h2⟩ => ⟨b, h1, g2, h2.below⟩
end
section
open Prot (heldOf derive at_ whyR)
attribute [local go_sem] slk sget sput uponK_value uponK_skip uponK_enter
theorem spread_ints {W : World} (base : Nat) (v : Value) (xs ys : List Int) (hown : W.ownsRow base 3 1 v xs.length (xs.map (Value.int .i64))) (A : Option Addr) (c : Nat) (hr : Kd.C (Kd.int .i64) W A ys.length ys) (hbase : base ≤ W.heap.size) (hl : xs.length + ys.length ≤ 1000) (hv : ∃ A c, v = .slice A xs.length c ∧ xs.length ≤ c) :
  ∃ v1 W1, (Builtin.append_ #[37, 37] 37 #[v, .slice A ys.length c]).run Tryz.prog W = .ok v1 W1 ∧ W1.ownsRow base 3 1 v1 (xs ++ ys).length ((xs ++ ys).map (Value.int .i64)) ∧ W.grownBy W1 v.ownBlock ∧
   (v1.ownBlock = v.ownBlock ∨ v1.ownBlock = some W.heap.size) := by
 obtain ⟨i0, hi, hzz⟩ := Option.map_eq_some_iff.1 info3
 simp only [Prod.mk.injEq] at hzz
 obtain ⟨hz0, hz1, hz2⟩ := hzz
 cases ys with
 | nil =>
  obtain ⟨A', c', rfl, hle⟩ := hv
  refine ⟨_, W, run_append_nothing W 37 37 37 3 i0 Tryz.underlying37 hi A' xs.length c' hle _ ⟨.inl ⟨3, Tryz.underlying37⟩, fun w' => by rfl, ?_, ?_, by simp, by simp⟩, by simpa using hown, ⟨rfl, rfl, rfl, Nat.le_refl _, fun _ _ _ => rfl⟩, .inl rfl⟩
  ·cases A <;> simp [Builtin.firstCells, loadCells, loadCellsFrom]
  ·cases A <;> simp [Builtin.firstCells, loadCells, loadCellsFrom]
 | cons y0 ys0 =>
  obtain ⟨ys, hys⟩ : ∃ ys, ys = y0 :: ys0 := ⟨_, rfl⟩
  rw [← hys] at hr hl ⊢
  have hpos : 0 < ys.length := by rw [hys]; simp
  obtain ⟨ad, rfl, _⟩ := Kd.at_int hr 0 (by omega) (by omega)
  obtain ⟨v1, w1, h1, h2, h3, _, h5⟩ := run_append_own_at (P := Tryz.prog) (w := W) base 37 37 3 i0 (.int .i64 0) 1 8 Tryz.underlying37 hi hz0 hz1 hz2 rfl (by decide) v xs.length (xs.map (Value.int .i64)) hown
   ad ys.length c (ys.map (Value.int .i64)) (by simp) (fun j u hj => by
    have hj' : j < ys.length := by have := (List.getElem?_eq_some_iff.1 hj).1; simpa using this
    obtain ⟨ad', e, hc⟩ := Kd.at_int hr (j : Int) (by omega) (by omega)
    cases e
    have hu : u = .int .i64 ys[j] := by
     rw [List.getElem?_map, List.getElem?_eq_getElem hj'] at hj
     exact (Option.some.inj hj).symm
    rw [hu]
    simp only [Int.toNat_natCast] at hc
    rw [hc, rd_nat _ _ hj']) (fun u hu => by
    obtain ⟨s, _, rfl⟩ := List.mem_map.1 hu
    rfl) (by simp only [maxLen]; omega) (by omega) hbase
  exact ⟨v1, w1, h1, by simpa using h2, h3, h5⟩
theorem R_of_ownI {w : World} {base : Nat} {v : Value} {xs : List Int} (h : w.ownsRow base 3 1 v xs.length (xs.map (Value.int .i64))) : Kd.R (Kd.int .i64) 3 w base (fun _ => True) v xs :=
 ⟨fun _ _ => trivial, _, h, Kd.reps_scalar xs⟩
theorem whyR_len {l0 : List S25} (hx : ∀ x ∈ l0, x.f3.length ≤ 8 ∧ x.f4.length ≤ 8) (claim : ByteArray) : ∀ l : List Nat, (∀ i ∈ l, i < l0.length) → (whyR (l0.map toC) claim l).1.length ≤ 1 + 8 * l.length ∧ (whyR (l0.map toC) claim l).2.length ≤ l.length
 | [], _ => by simp [whyR]
 | i :: l, h => by
  have ih := whyR_len hx claim l fun j hj => h j (List.mem_cons_of_mem _ hj)
  have hi := h i List.mem_cons_self
  have e : (at_ (l0.map toC) i).ifs = l0[i].f3 := by simp [at_, List.getD_eq_getElem?_getD, List.getElem?_eq_getElem hi, toC]
  have := (hx _ (List.getElem_mem hi)).1
  simp only [whyR]
  split
  ·simp only [List.length_append, List.length_cons, e]
   omega
  ·simp only [List.length_cons]
   omega
structure WR (B : Nat) (W0 W : World) (wl : List ByteArray) (ol : List Int) (wv ov : Value) : Prop where
 below : Below B W0 W
 wr : W.ownsRow B 9 1 wv wl.length (wl.map Value.string)
 orr : W.ownsRow B 3 1 ov ol.length (ol.map (Value.int .i64))
theorem WR.ne {B : Nat} {W0 W : World} {wl : List ByteArray} {ol : List Int} {wv ov : Value} (h : WR B W0 W wl ol wv ov) : ov.ownBlock = none ∨ ov.ownBlock ≠ wv.ownBlock := by
 cases ho : ov.ownBlock with
 | none => exact .inl rfl
 | some k =>
  refine .inr fun e => ?_
  obtain ⟨c1, h1⟩ := own_typed h.orr k ho
  obtain ⟨c2, h2⟩ := own_typed h.wr k e.symm
  rw [h1] at h2
  cases h2
theorem WR.alloc {B : Nat} {W0 W : World} {wl : List ByteArray} {ol : List Int} {wv ov : Value} (h : WR B W0 W wl ol wv ov) (hB : B ≤ W.heap.size) (o : Obj) : WR B W0 (W.alloc o) wl ol wv ov := ⟨h.below.alloc hB o, h.wr.alloc o, h.orr.alloc o⟩
theorem own_slice3 {W : World} {base : Nat} {v : Value} {n : Nat} {xs : List Value} (h : W.ownsRow base 3 1 v n xs) : ∃ A c, v = .slice A n c ∧ n ≤ c := by
 rcases h.2 with ⟨rfl, rfl⟩ | ⟨g, cap, cur, rfl, _, _, hnc, _⟩
 ·exact ⟨_, _, rfl, Nat.le_refl _⟩
 ·exact ⟨_, _, rfl, hnc⟩
theorem WR.world {B : Nat} {W0 W V : World} {wl : List ByteArray} {ol : List Int} {wv ov : Value} (h : WR B W0 W wl ol wv ov) (hB : B ≤ W.heap.size) (hb : Below W.heap.size W V) : WR B W0 V wl ol wv ov := by
 have hg : W.grownBy V none := ⟨hb.os, hb.tape, hb.output, hb.size, fun k hk _ => hb.block k hk⟩
 have hn : ∀ v : Value, v.ownBlock = none ∨ v.ownBlock ≠ none := fun v => by cases v.ownBlock <;> simp
 exact ⟨h.below.trans (hb.mono hB), h.wr.kept hg (hn _), h.orr.kept hg (hn _)⟩
theorem WR.pre {B : Nat} {W0 W : World} {wl : List ByteArray} {ol : List Int} {wv ov : Value} (h : WR B W0 W wl ol wv ov) (hB : B ≤ W.heap.size) (n : Int) (hl : ol.length ≤ 100) :
  ∃ A k c W1, (Builtin.append_ #[37, 37] 37 #[.slice (some ⟨W.heap.size, 0, none⟩) 1 1, ov]).run Tryz.prog (W.alloc (.cells #[.int .i64 n] 3)) = .ok (.slice A k c) W1 ∧ WR B W0 W1 wl (n :: ol) wv (.slice A k c) ∧ B ≤ W1.heap.size ∧ Below W.heap.size W W1 := by
 have ha := h.alloc hB (.cells #[.int .i64 n] 3)
 obtain ⟨A, c, rfl, hlc, hC⟩ := Kd.R_reads (R_of_ownI ha.orr)
 obtain ⟨v1, W1, r1, o1, g1, a1⟩ := spread_ints (W := W.alloc (.cells #[.int .i64 n] 3)) B (.slice (some ⟨W.heap.size, 0, none⟩) 1 1) [n] ol (World.ownsRow_lit W #[.int .i64 n] 1 hB (by decide) rfl) A c hC (by simp; omega) (by simp; omega) ⟨_, _, rfl, Nat.le_refl _⟩
 obtain ⟨A1, c1, rfl, _⟩ := own_slice3 o1
 have hz := g1.size
 have hwl := h.wr.lt
 refine ⟨_, _, _, W1, r1, ⟨?_, ha.wr.kept g1 ?_, o1⟩, by simp at hz; omega, ((Below.refl _ W).alloc (Nat.le_refl _) _).grown g1 (by simp) fun k hk => by simp only [Value.ownBlock, Option.some.injEq] at hk; omega⟩
 ·exact ha.below.grown g1 (by simp; omega) (fun k hk => by simp only [Value.ownBlock, Option.some.injEq] at hk; omega)
 ·cases e : wv.ownBlock with
  | none => exact .inl rfl
  | some k =>
   have := (hwl k e).2
   exact .inr (by simp only [Value.ownBlock, ne_eq, Option.some.injEq]; omega)
theorem WR.add {B : Nat} {W0 W : World} {wl : List ByteArray} {ol : List Int} {wv ov : Value} (h : WR B W0 W wl ol wv ov) (hB : B ≤ W.heap.size) (A : Option Addr) (c : Nat) (ys : List ByteArray) (hr : Kd.C Kd.string W A ys.length ys) (hl : wl.length + ys.length ≤ 1000) :
  ∃ A1 k c1 W1, (Builtin.append_ #[23, 23] 23 #[wv, .slice A ys.length c]).run Tryz.prog W = .ok (.slice A1 k c1) W1 ∧ WR B W0 W1 (wl ++ ys) ol (.slice A1 k c1) ov ∧ B ≤ W1.heap.size := by
 obtain ⟨v1, W1, r1, o1, g1, a1⟩ := spread_run B wv wl ys h.wr A c hr hB hl
 obtain ⟨A1, c1, rfl, _⟩ := own_slice o1
 have hz := g1.size
 refine ⟨_, _, _, W1, r1, ⟨h.below.grown g1 hB fun k hk => (h.wr.lt k hk).1, o1, h.orr.kept g1 h.ne⟩, by omega⟩
set_option maxRecDepth 100000 in
set_option maxHeartbeats 4000000 in
theorem ref_why_calls (A0 : Option Addr) (c0 : Nat) (l0 : List S25) (a1 : Int) (A2 : Option Addr) (c2 : Nat) (l2 : List ByteArray) (a3 : ByteArray) (r1 : List Int) (r2 : Int) (w : World) (hr0 : Kd.C k25 w A0 l0.length l0) (hc0 : l0.length ≤ c0) (hr2 : Kd.C Kd.string w A2 l2.length l2) (hc2 : l2.length ≤ c2) (h : protest_Why.f l0 a1 l2 a3 = some (r1, r2)) :
  Calls Tryz.prog 21 #[.slice A0 l0.length c0, .int .i64 a1, .slice A2 l2.length c2, .string a3] w fun e w' => ∃ v0_ : Value, e = .returned (.tuple #[v0_, .int .i64 r2]) ∧ Kd.R (Kd.int .i64) 3 w' w.heap.size (fun _ => True) v0_ r1 ∧ Below w.heap.size w w' := by
 have HH := Aside0.mk h
 have H0 := Aside0.mk hr0
 have H2 := Aside0.mk hr2
 have HE := Aside0.mk (asked_eq l0 a1 l2 (l2.length + 41) hr2.2.1 (by omega))
 clear hr0 hr2 h
 refine callsK (args := [.slice A0 l0.length c0, .int .i64 a1, .slice A2 l2.length c2, .string a3]) Tryz.func21 rfl Tryz.ntmps21 (by simp) fun a HF => ?_
 replace HF : Fr 70 [] [(0, .slice A0 l0.length c0), (1, .int .i64 a1), (2, .slice A2 l2.length c2), (3, .string a3)] a := HF
 refine wpIn_seq (wpIn_region_k (fun _ => trivial) rfl wideC HF fun K hK => ?_)
 repeat (refine OpsK.step rfl rfl rfl ?_; go_simp)
 refine fin hK [(0, .slice A0 l0.length c0), (1, .int .i64 a1), (2, .slice A2 l2.length c2), (3, .string a3)] ⟨rfl, rfl, rfl, rfl, trivial⟩ fun a HF => ?_
 clear hK K
 refine wpIn_seq (wpIn_region_k (fun _ => trivial) rfl wideC HF fun K hK => ?_)
 repeat (refine OpsK.step rfl rfl rfl ?_; go_simp)
 refine (besomref09_asked.calls _ A0 c0 l0 a1 A2 c2 l2 _ w H0.out hc0 H2.out hc2 HE.out).mono ?_
 rintro _ W1 ⟨rfl, hb⟩
 have HB := Aside0.mk hb
 clear hb HE
 dsimp only
 repeat (refine OpsK.step rfl rfl rfl ?_; go_simp)
 refine fin hK [(0, .slice A0 l0.length c0), (1, .int .i64 a1), (2, .slice A2 l2.length c2), (3, .string a3), (10, .int .i64 (askedErr l0 a1 l2))] ⟨rfl, rfl, rfl, rfl, rfl, trivial⟩ fun a HF => ?_
 clear hK K
 have hh := HH.out
 unfold protest_Why.f whyOf at hh
 unfold askedErr at HF
 refine wpIn_seq (wpIn_seq (wpIn_region_k (fun _ => trivial) rfl wideC HF fun K hK => ?_))
 cases ha : askedOf l0 a1 l2 with
 | error p =>
  have hp := asked_err ha
  simp only [ha] at HF hh ⊢
  obtain ⟨rfl, rfl⟩ : r1 = [] ∧ r2 = p.2 := by simpa [eq_comm] using hh
  have e1 : (p.2 != 0) = true := by simp [hp]
  have e2 : (p.2 == 0) = false := by simp [hp]
  clear hh ha hp HH
  repeat (refine OpsK.step rfl rfl rfl ?_; go_simp)
  refine fin hK [(10, .int .i64 p.2), (21, .bool true)] ⟨rfl, rfl, trivial⟩ fun a HF => ?_
  clear hK K
  refine wpIn_cond_true (HF.tmp rfl) ?_
  refine wpIn_seq (wpIn_region_k (fun _ => trivial) rfl wideC HF fun K hK => ?_)
  repeat (refine OpsK.step rfl rfl rfl ?_; go_simp)
  refine fin hK [(8, .slice none 0 0), (9, .int .i64 p.2)] ⟨rfl, rfl, trivial⟩ fun a HF => ?_
  refine wpIn_ret ?_
  simp only [Exit.then, ↓reduceIte]
  exact HF.ret2 rfl rfl rfl ⟨_, rfl, Kd.R_nil _ _ _ _ _, HB.out⟩
 | ok mo =>
  obtain ⟨m, o⟩ := mo
  simp only [ha] at HF hh ⊢
  have HA := Aside0.mk ha
  have HQ := Aside0.mk hh
  clear hh ha HH
  repeat (refine OpsK.step rfl rfl rfl ?_; go_simp)
  refine fin hK [(0, .slice A0 l0.length c0), (1, .int .i64 a1), (2, .slice A2 l2.length c2), (3, .string a3), (21, .bool false)] ⟨rfl, rfl, rfl, rfl, rfl, trivial⟩ fun a HF => ?_
  clear hK K
  refine wpIn_cond_false (HF.tmp rfl) (wpIn_skip ?_)
  refine wpIn_seq (wpIn_seq (wpIn_region_k (fun _ => trivial) rfl wideC HF fun K hK => ?_))
  repeat (refine OpsK.step rfl rfl rfl ?_; go_simp)
  refine (besomref09_Name.calls 40 a3 _ W1 (Name_eq a3 40 (Nat.le_refl _))).mono ?_
  rintro _ W2 ⟨rfl, hd⟩
  have HB2 := Aside0.mk (bd HB.out hd)
  clear hd HB
  dsimp only
  cases hn : nameB a3 with
  | false =>
   have hh := HQ.out
   simp only [hn, Bool.false_eq_true, if_false] at hh
   obtain ⟨rfl, rfl⟩ : r1 = [] ∧ r2 = 2 := by simpa [eq_comm] using hh
   clear hh
   repeat (refine OpsK.step rfl rfl rfl ?_; go_simp)
   refine fin hK [(25, .bool true)] ⟨rfl, trivial⟩ fun a HF => ?_
   clear hK K
   refine wpIn_cond_true (HF.tmp rfl) ?_
   refine wpIn_seq (wpIn_region_k (fun _ => trivial) rfl wideC HF fun K hK => ?_)
   repeat (refine OpsK.step rfl rfl rfl ?_; go_simp)
   refine fin hK [(8, .slice none 0 0), (9, .int .i64 2)] ⟨rfl, rfl, trivial⟩ fun a HF => ?_
   refine wpIn_ret ?_
   simp only [Exit.then, ↓reduceIte]
   exact HF.ret2 rfl rfl rfl ⟨_, rfl, Kd.R_nil _ _ _ _ _, HB2.out⟩
  | true =>
   have hh := HQ.out
   simp only [hn, if_true] at hh
   have HQ2 := Aside0.mk hh
   clear hh HQ
   repeat (refine OpsK.step rfl rfl rfl ?_; go_simp)
   refine fin hK [(0, .slice A0 l0.length c0), (1, .int .i64 a1), (2, .slice A2 l2.length c2), (3, .string a3), (25, .bool false)] ⟨rfl, rfl, rfl, rfl, rfl, trivial⟩ fun a HF => ?_
   clear hK K
   refine wpIn_cond_false (HF.tmp rfl) (wpIn_skip ?_)
   refine wpIn_seq (wpIn_region_k (fun _ => trivial) rfl wideC HF fun K hK => ?_)
   repeat (refine OpsK.step rfl rfl rfl ?_; go_simp)
   refine (besomref09_make1.calls A0 c0 l0 a1 A2 c2 l2 _ _ W2 (Kd.C_below H0.out HB2.out) hc0 (Kd.C_below H2.out HB2.out) hc2 (make1_eq HA.out)).mono ?_
   rintro _ W3 ⟨v0, v1, rfl, hR0, hR1, hb⟩
   obtain ⟨Ah, ch, rfl⟩ := Kd.R_slice hR0
   obtain ⟨Ar, cr, rfl⟩ := Kd.R_slice hR1
   have HRh := Aside0.mk (Kd.R_reads' hR0).2
   have HRr := Aside0.mk (Kd.R_reads' hR1).2
   have HB3 := Aside0.mk (bt HB2.out hb)
   clear hb HB2 hR0 hR1
   dsimp only
   repeat (refine OpsK.step rfl rfl rfl ?_; go_simp)
   obtain ⟨hd, hhd⟩ : ∃ hd, hd = heldOf (l0.map toC) l2 o := ⟨_, rfl⟩
   have hlen := held_length HA.out
   rw [← hhd] at HRh HQ2 hlen ⊢
   refine fin hK [(0, .slice A0 l0.length c0), (3, .string a3), (11, .pointer (some ⟨W3.heap.size, 0, none⟩))] ⟨rfl, rfl, rfl, trivial⟩ fun a HF => ?_
   clear hK K
   show Code.wpIn _ _ _ _ _ _ (W3.alloc (.cells #[.slice Ah hd.length ch, .slice Ar (ints o).length cr] 80))
   have hB := bt HB3.out ((Below.refl _ W3).alloc (Nat.le_refl _) (.cells #[.slice Ah hd.length ch, .slice Ar (ints o).length cr] 80))
   have hg := World.alloc_heap_new W3 (.cells #[.slice Ah hd.length ch, .slice Ar (ints o).length cr] 80)
   have hRh := Kd.C_below HRh.out.2 ((Below.refl _ W3).alloc (Nat.le_refl _) (.cells #[.slice Ah hd.length ch, .slice Ar (ints o).length cr] 80))
   have hRr := Kd.C_below HRr.out.2 ((Below.refl _ W3).alloc (Nat.le_refl _) (.cells #[.slice Ah hd.length ch, .slice Ar (ints o).length cr] 80))
   have hch := HRh.out.1
   obtain ⟨g, hgg⟩ : ∃ g, g = W3.heap.size := ⟨_, rfl⟩
   rw [← hgg] at hg HF
   generalize W3.alloc (.cells #[.slice Ah hd.length ch, .slice Ar (ints o).length cr] 80) = W4 at hB hg hRh hRr ⊢
   clear HB3 hgg HRh HRr
   have HB4 := Aside0.mk hB
   have HG := Aside0.mk hg
   have HRr := Aside0.mk hRr
   have HRh := Aside0.mk hRh
   have HHD := Aside0.mk hhd
   clear hB hg hRh hRr hhd
   obtain ⟨q0, q1⟩ := two_cells HG.out
   refine wpIn_seq (wpIn_seq (wpIn_region_k (fun _ => trivial) rfl wideC HF fun K hK => ?_))
   repeat (refine OpsK.step rfl rfl rfl ?_; go_simp)
   refine (besomref09_Has.calls 200 Ah ch hd a3 (decide (a3 ∈ hd)) W4 HRh.out hch (Has_eq _ _ _ (by omega) (by omega))).mono ?_
   rintro _ W5 ⟨rfl, hdw⟩
   have hb5 := hdw.below
   have HB5 := Aside0.mk (bt HB4.out hb5)
   have HG5 := Aside0.mk (heap_keep hb5 HG.out)
   have HRr5 := Aside0.mk (Kd.C_below HRr.out hb5)
   clear hdw hb5 HB4 HG HRr HRh q0 q1
   dsimp only
   by_cases hin : a3 ∈ hd
   rotate_left 1
   ·have hh := HQ2.out
    simp only [has_setOf, hin, decide_false, Bool.false_eq_true, if_false] at hh
    obtain ⟨rfl, rfl⟩ : r1 = [] ∧ r2 = 7 := by simpa [eq_comm] using hh
    clear hh
    have hin' : decide (a3 ∈ hd) = false := decide_eq_false hin
    repeat (refine OpsK.step rfl rfl rfl ?_; go_simp)
    refine fin hK [(34, .bool true)] ⟨rfl, trivial⟩ fun a HF => ?_
    clear hK K
    refine wpIn_cond_true (HF.tmp rfl) ?_
    refine wpIn_seq (wpIn_region_k (fun _ => trivial) rfl wideC HF fun K hK => ?_)
    repeat (refine OpsK.step rfl rfl rfl ?_; go_simp)
    refine fin hK [(8, .slice none 0 0), (9, .int .i64 7)] ⟨rfl, rfl, trivial⟩ fun a HF => ?_
    refine wpIn_ret ?_
    simp only [Exit.then, ↓reduceIte]
    exact HF.ret2 rfl rfl rfl ⟨_, rfl, Kd.R_nil _ _ _ _ _, HB5.out⟩
   have hh := HQ2.out
   simp only [has_setOf, hin, decide_true, if_true] at hh
   obtain ⟨rfl, rfl⟩ : r1 = ints (derive (l0.map toC) o a3) ∧ r2 = 0 := by simpa [eq_comm] using hh
   have hin' : decide (a3 ∈ hd) = true := decide_eq_true hin
   clear hh HQ2
   repeat (refine OpsK.step rfl rfl rfl ?_; go_simp)
   refine fin hK [(0, .slice A0 l0.length c0), (3, .string a3), (11, .pointer (some ⟨g, 0, none⟩)), (34, .bool false)] ⟨rfl, rfl, rfl, rfl, trivial⟩ fun a HF => ?_
   clear hK K hin'
   refine wpIn_cond_false (HF.tmp rfl) (wpIn_skip ?_)
   refine wpIn_seq (wpIn_region_k (fun _ => trivial) rfl wideC HF fun K hK => ?_)
   repeat (refine OpsK.step rfl rfl rfl ?_; go_simp)
   refine fin hK [(0, .slice A0 l0.length c0), (11, .pointer (some ⟨g, 0, none⟩)), (12, .slice (some ⟨W5.heap.size, 0, none⟩) 1 1)] ⟨rfl, rfl, rfl, trivial⟩ fun a HF => ?_
   clear hK K
   show Code.wpIn _ _ _ _ _ _ (W5.alloc (.cells #[.string a3] 9))
   have hT : WR W5.heap.size W5 (W5.alloc (.cells #[.string a3] 9)) (whyR (l0.map toC) a3 (o.drop o.length)).1 (ints (whyR (l0.map toC) a3 (o.drop o.length)).2) (.slice (some ⟨W5.heap.size, 0, none⟩) 1 1) (.slice none 0 0) := by
    rw [List.drop_length]
    exact ⟨(Below.refl _ _).alloc (Nat.le_refl _) _, World.ownsRow_lit W5 #[.string a3] 1 (Nat.le_refl _) (by decide) rfl, World.ownsRow_nil _ _ _ _⟩
   have hb6 : Below W5.heap.size W5 (W5.alloc (.cells #[.string a3] 9)) := (Below.refl _ _).alloc (Nat.le_refl _) _
   obtain ⟨wv0, hwv⟩ : ∃ v, v = Value.slice (some ⟨W5.heap.size, 0, none⟩) 1 1 := ⟨_, rfl⟩
   rw [← hwv] at hT HF
   generalize W5.alloc (.cells #[.string a3] 9) = W6 at hT hb6 ⊢
   obtain ⟨q0, q1⟩ := two_cells (heap_keep hb6 HG5.out)
   have HT := Aside0.mk hT
   have HB6 := Aside0.mk hb6
   clear hT hwv hb6
   refine wpIn_seq (wpIn_region_k (fun _ => trivial) rfl wideC HF fun K hK => ?_)
   repeat (refine OpsK.step rfl rfl rfl ?_; go_simp)
   refine fin hK [(0, .slice A0 l0.length c0), (11, .pointer (some ⟨g, 0, none⟩)), (12, wv0), (13, .slice none 0 0)] ⟨rfl, rfl, rfl, rfl, trivial⟩ fun a HF => ?_
   clear hK K
   have hol := hlen.2
   refine wpIn_seq (wpIn_seq (wpIn_region_k (fun _ => trivial) rfl wideC HF fun K hK => ?_))
   have hil : ((ints o).length : Int) = (o.length : Int) := by rw [ints_len]
   repeat (refine OpsK.step rfl rfl rfl ?_; go_simp)
   refine fin hK [(0, .slice A0 l0.length c0), (11, .pointer (some ⟨g, 0, none⟩)), (12, wv0), (13, .slice none 0 0), (14, .int .i64 ((o.length : Nat) - 1 : Int))] ⟨rfl, rfl, rfl, rfl, by simp only [sget]; simp [ints_len]; exact IntWalk.i64_in _ (by omega), trivial⟩ fun a HF => ?_
   clear hK K q0 q1 hil
   refine wpIn_block (wpIn_loop (fun a wr => ∃ (j : Nat) (wv ov : Value), j ≤ o.length ∧ Fr 70 [] [(0, .slice A0 l0.length c0), (11, .pointer (some ⟨g, 0, none⟩)), (12, wv), (13, ov), (14, .int .i64 ((j : Nat) - 1 : Int))] a ∧ WR W5.heap.size W5 wr (whyR (l0.map toC) a3 (o.drop j)).1 (ints (whyR (l0.map toC) a3 (o.drop j)).2) wv ov ∧ W5.heap.size ≤ wr.heap.size)
    (fun a _ => (intOf (a.eval (.tmp 14)) + 1).toNat) ⟨o.length, _, _, Nat.le_refl _, HF, HT.out, HB6.out.size⟩ ?_)
   clear HF HT HB6
   rintro a wr ⟨j, wv, ov, hj, HF, hT, hz⟩
   have hmu : (intOf (a.eval (.tmp 14)) + 1).toNat = j := by rw [HF.tmp (k := 14) rfl]; simp only [intOf]; omega
   rw [hmu]
   clear hmu
   refine wpIn_seq ?_
   cases j with
   | zero =>
    rw [List.drop_zero] at hT
    have HT := Aside0.mk hT
    clear hT
    replace HF : Fr 70 [] [(13, ov), (14, .int .i64 (-1))] a := HF.sub ⟨rfl, rfl, trivial⟩
    refine wpIn_seq (wpIn_region_k (fun _ => trivial) rfl wideC HF fun K hK => ?_)
    repeat (refine OpsK.step rfl rfl rfl ?_; go_simp)
    refine fin hK [(13, ov), (42, .bool false)] ⟨rfl, rfl, trivial⟩ fun a HF => ?_
    clear hK K
    refine wpIn_cond_false (HF.tmp rfl) (wpIn_exit ?_)
    simp only [Exit.then, Exit.inBlock, ↓reduceIte]
    refine wpIn_seq (wpIn_region_k (fun _ => trivial) rfl wideC HF fun K hK => ?_)
    repeat (refine OpsK.step rfl rfl rfl ?_; go_simp)
    refine fin hK [(8, ov), (9, .int .i64 0)] ⟨rfl, rfl, trivial⟩ fun a HF => ?_
    refine wpIn_ret (HF.ret2 rfl rfl rfl ⟨_, rfl, ?_, below_then HB5.out HB5.out.size HT.out.below⟩)
    rw [← Prot.whyR_derive (model_of (asked_ok HA.out).1 (asked_ok HA.out).2) a3]
    exact Kd.R_lower (R_of_ownI HT.out.orr) HB5.out.size
   | succ i =>
    have hio : i < o.length := by omega
    have hM := model_of (asked_ok HA.out).1 (asked_ok HA.out).2
    have hlt : o[i] < l0.length := by have := hM.lt _ (List.getElem_mem hio); rwa [List.length_map] at this
    obtain ⟨ad1, hA1, z1⟩ := Kd.at_int (Kd.C_below HRr5.out hT.below) (i : Int) (by omega) (by rw [ints_len]; omega)
    simp only [Int.toNat_natCast] at z1
    rw [rd_ints o hio] at z1
    obtain ⟨n, hn⟩ : ∃ n, n = o[i] := ⟨_, rfl⟩
    rw [← hn] at z1 hlt
    have HNO := Aside0.mk hn
    obtain ⟨ad, A3, c3, A4, c4, hA0, x0, x1, x2, x3, x4, x5, l3, g3, l4, g4⟩ := at_later H0.out (below_then HB5.out HB5.out.size hT.below) (n : Int) (by omega) (by omega)
    simp only [Int.toNat_natCast] at x0 x1 x2 x3 x4 x5
    obtain ⟨x, hx⟩ : ∃ x, x = rd_T25 l0 (n : Int) := ⟨_, rfl⟩
    rw [← hx] at x0 x1 x2 x3 x4 x5 l3 g3 l4 g4
    have hxm : x ∈ l0 := by rw [hx, rdT_at l0 n hlt]; exact List.getElem_mem hlt
    have hxl := (ok_lens (asked_ok HA.out).1 x hxm).1
    have hat : at_ (l0.map toC) n = toC x := by rw [hx]; exact at_toC l0 hlt
    have hwl := whyR_len (ok_lens (asked_ok HA.out).1) a3 (o.drop (i + 1)) (fun k hk => by have := hM.lt _ (List.mem_of_mem_drop hk); rwa [List.length_map] at this)
    have hdl : (o.drop (i + 1)).length ≤ 64 := by rw [List.length_drop]; omega
    have hwhy : whyR (l0.map toC) a3 (o.drop i) = if x.f5 ∈ (whyR (l0.map toC) a3 (o.drop (i + 1))).1 then ((whyR (l0.map toC) a3 (o.drop (i + 1))).1 ++ x.f3, n :: (whyR (l0.map toC) a3 (o.drop (i + 1))).2) else whyR (l0.map toC) a3 (o.drop (i + 1)) := by
     rw [List.drop_eq_getElem_cons hio, ← hn]
     simp only [whyR, hat, contains_mem, decide_eq_true_eq]
     rfl
    obtain ⟨wl, hwle⟩ : ∃ wl, wl = (whyR (l0.map toC) a3 (o.drop (i + 1))).1 := ⟨_, rfl⟩
    obtain ⟨ol, hole⟩ : ∃ ol, ol = (whyR (l0.map toC) a3 (o.drop (i + 1))).2 := ⟨_, rfl⟩
    have hpair : whyR (l0.map toC) a3 (o.drop (i + 1)) = (wl, ol) := by rw [hwle, hole]
    rw [hpair] at hT hwl hwhy
    dsimp only at hT hwl hwhy
    cases A0 with
    | none => cases hA0
    | some ad0 =>
    cases hA0
    cases Ar with
    | none => cases hA1
    | some adr =>
    cases hA1
    obtain ⟨q0, q1⟩ := two_cells (heap_keep hT.below HG5.out)
    have HT := Aside0.mk hT
    have HWY := Aside0.mk hwhy
    have HL3 := Aside0.mk l3
    have HG3 := Aside0.mk g3
    have hu25 := Tryz.underlying25
    have HLI : ((n : Nat) : Int) < ((l0.length : Nat) : Int) := by omega
    have HIO : ((i : Nat) : Int) < (((ints o).length : Nat) : Int) := by rw [ints_len]; omega
    clear hT hwhy hwle hole hpair hat hxm hx hn hM l3 g3 l4 g4
    replace HF : Fr 70 [] [(0, .slice (some ad) l0.length c0), (11, .pointer (some ⟨g, 0, none⟩)), (12, wv), (13, ov), (14, .int .i64 ((i : Nat) : Int))] a := by
     have e : ((i + 1 : Nat) : Int) - 1 = (i : Int) := by omega
     rw [e] at HF
     exact HF
    refine wpIn_seq (wpIn_region_k (fun _ => trivial) rfl wideC HF fun K hK => ?_)
    repeat (refine OpsK.step rfl rfl rfl ?_; go_simp)
    refine fin hK [(0, .slice (some ad) l0.length c0), (11, .pointer (some ⟨g, 0, none⟩)), (12, wv), (13, ov), (14, .int .i64 ((i : Nat) : Int)), (42, .bool true)] ⟨rfl, rfl, rfl, rfl, rfl, rfl, trivial⟩ fun a HF => ?_
    clear hK K
    refine wpIn_cond_true (HF.tmp rfl) (wpIn_skip ?_)
    simp only [Exit.then, Exit.inBlock, ↓reduceIte]
    refine wpIn_seq (wpIn_block (wpIn_seq (wpIn_region_k (fun _ => trivial) rfl wideC HF fun K hK => ?_)))
    repeat (refine OpsK.step rfl rfl rfl ?_; go_simp)
    refine fin hK [(0, .slice (some ad) l0.length c0), (11, .pointer (some ⟨g, 0, none⟩)), (12, wv), (13, ov), (14, .int .i64 ((i : Nat) : Int)), (15, .pointer (some ⟨wr.heap.size, 0, none⟩))] ⟨rfl, rfl, rfl, rfl, rfl, rfl, trivial⟩ fun a HF => ?_
    clear hK K z1 x0 x1 x2 x3 x4 x5 q0 q1
    show Code.wpIn _ _ _ _ _ _ (wr.alloc (.cells #[.string x.f0, .int .i64 x.f1, .int .i64 x.f2, .slice A3 x.f3.length c3, .slice A4 x.f4.length c4, .string x.f5] 25))
    have hT1 := HT.out.alloc hz (.cells #[.string x.f0, .int .i64 x.f1, .int .i64 x.f2, .slice A3 x.f3.length c3, .slice A4 x.f4.length c4, .string x.f5] 25)
    have hgv := World.alloc_heap_new wr (.cells #[.string x.f0, .int .i64 x.f1, .int .i64 x.f2, .slice A3 x.f3.length c3, .slice A4 x.f4.length c4, .string x.f5] 25)
    have hzv : W5.heap.size ≤ (wr.alloc (.cells #[.string x.f0, .int .i64 x.f1, .int .i64 x.f2, .slice A3 x.f3.length c3, .slice A4 x.f4.length c4, .string x.f5] 25)).heap.size := by simp; omega
    obtain ⟨vb, hvb⟩ : ∃ vb, vb = wr.heap.size := ⟨_, rfl⟩
    rw [← hvb] at hgv HF
    generalize wr.alloc (.cells #[.string x.f0, .int .i64 x.f1, .int .i64 x.f2, .slice A3 x.f3.length c3, .slice A4 x.f4.length c4, .string x.f5] 25) = V at hT1 hgv hzv ⊢
    obtain ⟨Aw, cw, rfl, hcw, hCw⟩ := Kd.R_reads (R_of_own hT1.wr)
    obtain ⟨x0, x1, x2, x3, x4, x5⟩ := six_cells hgv
    have HT1 := Aside0.mk hT1
    have HGV := Aside0.mk hgv
    have HCW := Aside0.mk hCw
    clear hT1 hgv hCw hvb HT
    refine wpIn_seq (wpIn_region_k (fun _ => trivial) rfl wideC HF fun K hK => ?_)
    repeat (refine OpsK.step rfl rfl rfl ?_; go_simp)
    refine (besomref09_Has.calls 2000 Aw cw wl x.f5 (decide (x.f5 ∈ wl)) V HCW.out hcw (Has_eq _ _ _ (by omega) (by omega))).mono ?_
    rintro _ V2 ⟨rfl, hdw⟩
    have hT2 := HT1.out.world hzv hdw.below
    have hgv2 := heap_keep hdw.below HGV.out
    have hz2 : W5.heap.size ≤ V2.heap.size := Nat.le_trans hzv hdw.below.size
    have HT2 := Aside0.mk hT2
    have HGV2 := Aside0.mk hgv2
    clear hT2 hgv2 hdw HT1 HGV HCW x0 x1 x2 x3 x4 x5
    dsimp only
    have hwy := HWY.out
    by_cases hin : x.f5 ∈ wl
    ·rw [if_pos hin] at hwy
     have HWZ := Aside0.mk hwy
     have hin' : decide (x.f5 ∈ wl) = true := decide_eq_true hin
     clear hwy HWY
     rw [hin']
     repeat (refine OpsK.step rfl rfl rfl ?_; go_simp)
     refine fin hK [(0, .slice (some ad) l0.length c0), (11, .pointer (some ⟨g, 0, none⟩)), (12, .slice Aw wl.length cw), (13, ov), (14, .int .i64 ((i : Nat) : Int)), (15, .pointer (some ⟨vb, 0, none⟩)), (56, .bool true)] ⟨rfl, rfl, rfl, rfl, rfl, rfl, rfl, trivial⟩ fun a HF => ?_
     clear hK K hin hin'
     refine wpIn_cond_true (HF.tmp rfl) ?_
     obtain ⟨A5, n5, k5, V3, hap, hT3, hz3, hb3⟩ := HT2.out.pre hz2 ((n : Nat) : Int) (by rw [ints_len]; omega)
     obtain ⟨q0, q1⟩ := two_cells (heap_keep HT2.out.below HG5.out)
     obtain ⟨ad2, hA2, z1⟩ := Kd.at_int (Kd.C_below HRr5.out HT2.out.below) (i : Int) (by omega) (by rw [ints_len]; omega)
     cases hA2
     simp only [Int.toNat_natCast] at z1
     rw [rd_ints o hio, ← HNO.out] at z1
     have hgv3 : V3.heap[vb]? = some (.cells #[.string x.f0, .int .i64 x.f1, .int .i64 x.f2, .slice A3 x.f3.length c3, .slice A4 x.f4.length c4, .string x.f5] 25 (0, 0)) := heap_keep hb3 HGV2.out
     have HT3 := Aside0.mk hT3
     have HGV3 := Aside0.mk hgv3
     clear hT3 hgv3
     refine wpIn_seq (wpIn_region_k (fun _ => trivial) rfl wideC HF fun K hK => ?_)
     iterate 7 (refine OpsK.step rfl rfl rfl ?_; go_simp)
     refine OpsK.step rfl rfl rfl ?_
     simp only [execOp, resolve, invoke, builtin, Sem.run_bind, Sem.run_pure, Result.andThen_ok, List.map_toArray, List.map_cons, List.map_nil, slk, sget, sput, ↓reduceIte, Nat.reduceEqDiff, Option.getD_some, hap, uponK_value]
     clear hap hb3 q0 q1 z1
     repeat (refine OpsK.step rfl rfl rfl ?_; go_simp)
     refine fin hK [(0, .slice (some ad) l0.length c0), (11, .pointer (some ⟨g, 0, none⟩)), (12, .slice Aw wl.length cw), (13, .slice A5 n5 k5), (14, .int .i64 ((i : Nat) : Int)), (15, .pointer (some ⟨vb, 0, none⟩))] ⟨rfl, rfl, rfl, rfl, rfl, rfl, trivial⟩ fun a HF => ?_
     clear hK K
     simp only [Exit.then, Exit.inBlock, ↓reduceIte]
     obtain ⟨A6, n6, k6, V4, hap, hT4, hz4⟩ := HT3.out.add hz3 A3 c3 x.f3 (Kd.C_below HG3.out (below_then HB5.out HB5.out.size HT3.out.below)) (by omega)
     obtain ⟨x0, x1, x2, x3, x4, x5⟩ := six_cells HGV3.out
     have HT4 := Aside0.mk hT4
     clear hT4
     refine wpIn_region_k (fun _ => trivial) rfl wideC HF fun K hK => ?_
     iterate 3 (refine OpsK.step rfl rfl rfl ?_; go_simp)
     refine OpsK.step rfl rfl rfl ?_
     simp only [execOp, resolve, invoke, builtin, Sem.run_bind, Sem.run_pure, Result.andThen_ok, List.map_toArray, List.map_cons, List.map_nil, slk, sget, sput, ↓reduceIte, Nat.reduceEqDiff, Option.getD_some, hap, uponK_value]
     clear hap x0 x1 x2 x3 x4 x5
     repeat (refine OpsK.step rfl rfl rfl ?_; go_simp)
     refine fin hK [(0, .slice (some ad) l0.length c0), (11, .pointer (some ⟨g, 0, none⟩)), (12, .slice A6 n6 k6), (13, .slice A5 n5 k5), (14, .int .i64 ((i : Nat) : Int))] ⟨rfl, rfl, rfl, rfl, rfl, trivial⟩ fun a HF => ?_
     clear hK K
     simp only [Exit.then, Exit.inBlock, ↓reduceIte]
     refine wpIn_region_k (fun _ => trivial) rfl wideC HF fun K hK => ?_
     repeat (refine OpsK.step rfl rfl rfl ?_; go_simp)
     refine fin hK [(0, .slice (some ad) l0.length c0), (11, .pointer (some ⟨g, 0, none⟩)), (12, .slice A6 n6 k6), (13, .slice A5 n5 k5), (14, .int .i64 (IntKind.i64.wrap ((i : Nat) - 1)))] ⟨rfl, rfl, rfl, rfl, rfl, trivial⟩ fun a HF => ?_
     rw [IntWalk.i64_in ((i : Int) - 1) (by omega)] at HF
     have hms : (intOf (a.eval (.tmp 14)) + 1).toNat < i + 1 := by rw [HF.tmp (k := 14) rfl]; simp only [intOf]; omega
     exact ⟨⟨i, _, _, by omega, HF, by rw [HWZ.out]; exact HT4.out, hz4⟩, hms⟩
    ·rw [if_neg hin] at hwy
     have hin' : decide (x.f5 ∈ wl) = false := decide_eq_false hin
     have HWZ := Aside0.mk hwy
     clear hwy HWY
     rw [hin']
     repeat (refine OpsK.step rfl rfl rfl ?_; go_simp)
     refine fin hK [(0, .slice (some ad) l0.length c0), (11, .pointer (some ⟨g, 0, none⟩)), (12, .slice Aw wl.length cw), (13, ov), (14, .int .i64 ((i : Nat) : Int)), (56, .bool false)] ⟨rfl, rfl, rfl, rfl, rfl, rfl, trivial⟩ fun a HF => ?_
     clear hK K hin hin'
     refine wpIn_cond_false (HF.tmp rfl) (wpIn_skip ?_)
     simp only [Exit.then, Exit.inBlock, ↓reduceIte]
     refine wpIn_region_k (fun _ => trivial) rfl wideC HF fun K hK => ?_
     repeat (refine OpsK.step rfl rfl rfl ?_; go_simp)
     refine fin hK [(0, .slice (some ad) l0.length c0), (11, .pointer (some ⟨g, 0, none⟩)), (12, .slice Aw wl.length cw), (13, ov), (14, .int .i64 (IntKind.i64.wrap ((i : Nat) - 1)))] ⟨rfl, rfl, rfl, rfl, rfl, trivial⟩ fun a HF => ?_
     rw [IntWalk.i64_in ((i : Int) - 1) (by omega)] at HF
     have hms : (intOf (a.eval (.tmp 14)) + 1).toNat < i + 1 := by rw [HF.tmp (k := 14) rfl]; simp only [intOf]; omega
     exact ⟨⟨i, _, _, by omega, HF, by rw [HWZ.out]; exact HT2.out, hz2⟩, hms⟩
end
section
open Prot (heldOf derive proveL at_ stepOk)
theorem wrapM {i : Nat} (h : i < 9223372036854775807) : wrap64 ((i : Int) + 1) = ((i + 1 : Nat) : Int) := by rw [wrap64_of (by omega) (by omega)]; omega
theorem getD_in (l : List ByteArray) (i : Nat) (h : i < l.length) : rdOf ByteArray.empty l (i : Int) = l[i] := by
 rw [rdOf_nat]; simp [List.getD_eq_getElem?_getD, List.getElem?_eq_getElem h]
theorem Same_loop (a b : List ByteArray) (hl : a.length = b.length) (hz : a.length ≤ 9223372036854775807) : ∀ (d k i : Nat), i ≤ a.length → a.length - i = d → d < k → besomref09_Same.l0 k a b (i : Int) = some (decide (a.drop i = b.drop i)) := by
 intro d
 induction d with
 | zero =>
  intro k i h1 h2 h3
  obtain ⟨k, rfl⟩ : ∃ m, k = m + 1 := ⟨k - 1, by omega⟩
  simp only [besomref09_Same.l0]
  rw [if_neg (by omega), List.drop_of_length_le (by omega), List.drop_of_length_le (by omega)]
  rfl
 | succ d ih =>
  intro k i h1 h2 h3
  obtain ⟨k, rfl⟩ : ∃ m, k = m + 1 := ⟨k - 1, by omega⟩
  have ha : i < a.length := by omega
  have hb : i < b.length := by omega
  simp only [besomref09_Same.l0]
  rw [if_pos (by omega), if_pos (by omega), if_pos (by omega), getD_in _ _ ha, getD_in _ _ hb, wrapM (by omega), ih k (i + 1) (by omega) (by omega) (by omega), List.drop_eq_getElem_cons ha, List.drop_eq_getElem_cons hb]
  generalize a[i] = x
  generalize b[i] = y
  generalize List.drop (i + 1) a = s
  generalize List.drop (i + 1) b = t
  by_cases e : x = y
  ·rw [if_pos (by rw [e])]; simp [e]
  ·rw [if_neg (fun h => e ((bytes_inj _ _).1 h))]; simp [e]
theorem Same_eq (a b : List ByteArray) (k : Nat) (hz : a.length ≤ 9223372036854775807) (hk : a.length < k) : besomref09_Same.f k a b = some (decide (a = b)) := by
 unfold besomref09_Same.f
 by_cases h : a.length = b.length
 ·rw [if_pos (by omega)]
  have := Same_loop a b h hz a.length k 0 (by omega) (by omega) hk
  simpa using this
 ·rw [if_neg (by omega)]
  have : ¬ a = b := fun e => h (by rw [e])
  simp [this]
theorem Less_loop (a b : List ByteArray) (hb : b.length ≤ 100000) (hz : a.length ≤ 100000) : ∀ (d k i : Nat) (o : List ByteArray), i ≤ a.length → a.length - i = d → d + b.length + 1 < k → o.length + d ≤ 200000 →
  besomref09_Less.l0 k a b o (i : Int) = some (o ++ (a.drop i).filter fun s => !decide (s ∈ b)) := by
 intro d
 induction d with
 | zero =>
  intro k i o h1 h2 h3 h4
  obtain ⟨k, rfl⟩ : ∃ m, k = m + 1 := ⟨k - 1, by omega⟩
  simp only [besomref09_Less.l0]
  rw [if_neg (by omega), List.drop_of_length_le (by omega)]
  simp
 | succ d ih =>
  intro k i o h1 h2 h3 h4
  obtain ⟨k, rfl⟩ : ∃ m, k = m + 1 := ⟨k - 1, by omega⟩
  have ha : i < a.length := by omega
  simp only [besomref09_Less.l0]
  rw [if_pos (by omega), if_pos (by omega), getD_in _ _ ha, Has_eq _ _ _ (by omega) (by omega), Option.bind_some, wrapM (by omega), List.drop_eq_getElem_cons ha]
  by_cases e : a[i] ∈ b
  ·rw [if_pos (by simpa using e), ih k (i + 1) o (by omega) (by omega) (by omega) (by omega)]
   rw [List.filter_cons_of_neg (by simpa using e)]
  ·rw [if_neg (by simpa using e), if_pos (by omega), ih k (i + 1) _ (by omega) (by omega) (by omega) (by simp; omega)]
   rw [List.filter_cons_of_pos (by simpa using e)]
   simp
theorem Less_eq (a b : List ByteArray) (k : Nat) (hb : b.length ≤ 100000) (hz : a.length ≤ 100000) (hk : a.length + b.length + 1 < k) : besomref09_Less.f k a b = some (a.filter fun s => !decide (s ∈ b)) := by
 have := Less_loop a b hb hz a.length k 0 [] (by omega) (by omega) (by omega) (by simp; omega)
 simpa [besomref09_Less.f] using this
end
section
theorem factsOf_len (l : List ByteArray) : (factsOf l).length ≤ l.length := by
 have := setOf_len l
 unfold factsOf risen
 simpa using this
theorem ins_strict {o : List ByteArray} {x : ByteArray} {j : Nat} (h : Strict o) (h1 : ∀ y ∈ o.take j, ltB y x = true) (h2 : ∀ y ∈ o.drop j, ltB x y = true) : Strict (o.take j ++ ([x] ++ o.drop j)) := by
 have e : Strict (o.take j ++ o.drop j) := by rw [List.take_append_drop]; exact h
 obtain ⟨e1, e2, e3⟩ := List.pairwise_append.1 e
 refine List.pairwise_append.2 ⟨e1, List.pairwise_cons.2 ⟨h2, e2⟩, fun a ha b hb => ?_⟩
 rcases List.mem_cons.1 hb with rfl | hb
 ·exact h1 a ha
 ·exact e3 a ha b hb
theorem facts_has {p : List ByteArray} {x : ByteArray} (h : x ∈ factsOf p) : factsOf (p ++ [x]) = factsOf p := by
 refine factsOf_eq (factsOf_strict p) fun y => ?_
 have h' := mem_factsOf.1 h
 rw [mem_factsOf, List.mem_append, List.mem_singleton]
 exact ⟨.inl, fun k => k.elim id fun e => e ▸ h'⟩
theorem facts_ins {p : List ByteArray} {x : ByteArray} {j : Nat} (h1 : ∀ y ∈ (factsOf p).take j, ltB y x = true) (h2 : ∀ y ∈ (factsOf p).drop j, ltB x y = true) : factsOf (p ++ [x]) = (factsOf p).take j ++ ([x] ++ (factsOf p).drop j) := by
 refine factsOf_eq (ins_strict (factsOf_strict p) h1 h2) fun y => ?_
 have e : y ∈ (factsOf p).take j ∨ y ∈ (factsOf p).drop j ↔ y ∈ p := by
  rw [← List.mem_append, List.take_append_drop, mem_factsOf]
 rw [List.mem_append, List.mem_append, List.mem_append, List.mem_singleton, ← e]
 constructor
 ·rintro (h | h | h) <;> simp [h]
 ·rintro ((h | h) | h) <;> simp [h]
theorem Rising_l1 (l o T : List ByteArray) (i : Nat) (hi : i < l.length) (hl : l.length ≤ 100000) (hol : o.length ≤ 100000) (ho : Strict o) (hT1 : l[i] ∈ o → T = o)
  (hT2 : ∀ j, (∀ y ∈ o.take j, ltB y l[i] = true) → (∀ y ∈ o.drop j, ltB l[i] y = true) → T = o.take j ++ ([l[i]] ++ o.drop j)) (R : List ByteArray) (K : Nat)
  (h0 : ∀ k, K ≤ k → besomref09_Rising.l0 k l T (wrap64 ((i : Int) + 1)) = some R) :
  ∀ (d k j : Nat), j ≤ o.length → o.length - j = d → K + d < k → (∀ y ∈ o.take j, ltB y l[i] = true) → besomref09_Rising.l1 k l o (i : Int) (j : Int) = some R := by
 intro d
 induction d with
 | zero =>
  intro k j h1 h2 h3 h4
  obtain ⟨k, rfl⟩ : ∃ m, k = m + 1 := ⟨k - 1, by omega⟩
  have hj : j = o.length := by omega
  have e := hT2 j h4 (by rw [hj, List.drop_length]; intro y hy; cases hy)
  simp only [besomref09_Rising.l1]
  rw [if_neg (by omega), if_pos (by omega)]
  simp only [Option.bind_some, List.nil_append, List.length_nil, Nat.zero_add, Int.toNat_natCast]
  have z1 : (o.take j).length ≤ 100000 := by rw [List.length_take]; omega
  have z2 : (o.drop j).length ≤ 100000 := by rw [List.length_drop]; omega
  rw [if_pos (by omega), if_pos (by omega), if_pos (by omega), if_pos (by omega), if_pos (by omega), if_pos (by omega), if_pos (by rw [List.length_append]; simp only [List.length_singleton]; omega), getD_in _ _ hi, List.append_assoc, ← e]
  exact h0 k (by omega)
 | succ d ih =>
  intro k j h1 h2 h3 h4
  obtain ⟨k, rfl⟩ : ∃ m, k = m + 1 := ⟨k - 1, by omega⟩
  have hj : j < o.length := by omega
  have hd := List.drop_eq_getElem_cons hj
  simp only [besomref09_Rising.l1]
  rw [if_pos (by omega), if_pos (by omega), if_pos (by omega), if_pos (by omega), getD_in _ _ hi, getD_in _ _ hj]
  by_cases hlt : ltB o[j] l[i] = true
  ·rw [if_pos (show Op.bytesLess o[j].toList l[i].toList = true from hlt), wrapM (by omega)]
   refine ih k (j + 1) (by omega) (by omega) (by omega) fun y hy => ?_
   rw [← List.take_append_getElem hj, List.mem_append, List.mem_singleton] at hy
   rcases hy with hy | rfl
   ·exact h4 y hy
   ·exact hlt
  ·rw [if_neg (show ¬ Op.bytesLess o[j].toList l[i].toList = true from hlt), if_neg (by omega)]
   by_cases he : o[j] = l[i]
   ·rw [if_pos (by rw [he]), ← hT1 (he ▸ List.getElem_mem hj)]
    exact h0 k (by omega)
   ·rw [if_neg (fun h => he ((bytes_inj _ _).1 h))]
    have hgt : ltB l[i] o[j] = true := by
     rcases ltB_tri o[j] l[i] with h | h | h
     ·exact absurd h hlt
     ·exact absurd h he
     ·exact h
    have hdr : Strict (o.drop j) := ho.sublist (List.drop_sublist j o)
    have e := hT2 j h4 (by
     rw [hd] at hdr ⊢
     intro y hy
     rcases List.mem_cons.1 hy with rfl | hy
     ·exact hgt
     ·exact ltB_trans hgt ((List.pairwise_cons.1 hdr).1 y hy))
    simp only [Option.bind_some, List.nil_append, List.length_nil, Nat.zero_add, Int.toNat_natCast]
    have z1 : (o.take j).length ≤ 100000 := by rw [List.length_take]; omega
    have z2 : (o.drop j).length ≤ 100000 := by rw [List.length_drop]; omega
    rw [if_pos (by omega), if_pos (by omega), if_pos (by omega), if_pos (by rw [List.length_append]; simp only [List.length_singleton]; omega), List.append_assoc, ← e]
    exact h0 k (by omega)
def Rk : Nat := 20000
theorem Rk_eq : Rk = 20000 := rfl
theorem Rising_l0 (l : List ByteArray) (hl : l.length ≤ 10000) : ∀ (d k i : Nat), i ≤ l.length → l.length - i = d → d * Rk + 10 < k → besomref09_Rising.l0 k l (factsOf (l.take i)) (i : Int) = some (factsOf l) := by
 intro d
 induction d with
 | zero =>
  intro k i h1 h2 h3
  obtain ⟨k, rfl⟩ : ∃ m, k = m + 1 := ⟨k - 1, by omega⟩
  simp only [besomref09_Rising.l0]
  rw [if_neg (by omega), List.take_of_length_le (by omega)]
 | succ d ih =>
  intro k i h1 h2 h3
  obtain ⟨k, rfl⟩ : ∃ m, k = m + 1 := ⟨k - 1, by omega⟩
  have hR := Rk_eq
  have hS : (d + 1) * Rk = d * Rk + Rk := Nat.succ_mul d Rk
  rw [hS] at h3
  have hi : i < l.length := by omega
  have hT : l.take (i + 1) = l.take i ++ [l[i]] := (List.take_append_getElem hi).symm
  have hlen := factsOf_len (l.take i)
  rw [List.length_take] at hlen
  simp only [besomref09_Rising.l0]
  rw [if_pos (by omega)]
  have := Rising_l1 l (factsOf (l.take i)) (factsOf (l.take (i + 1))) i hi (by omega) (by omega) (factsOf_strict _) (fun h => by rw [hT]; exact facts_has h)
   (fun j h1 h2 => by rw [hT]; exact facts_ins h1 h2) (factsOf l) (d * Rk + 11) (fun k' (hk' : d * Rk + 11 ≤ k') => by rw [wrapM (by omega)]; exact ih k' (i + 1) (by omega) (by omega) (by omega))
   (factsOf (l.take i)).length k 0 (by omega) (by omega) (by omega) (fun y hy => by simp at hy)
  exact this
theorem Rising_eq (l : List ByteArray) (k : Nat) (hl : l.length ≤ 10000) (hk : l.length * 20000 + 10 < k) : besomref09_Rising.f k l = some (factsOf l) := by
 have := Rising_l0 l hl l.length k 0 (by omega) (by omega) (by rw [Rk_eq]; exact hk)
 have e : factsOf (l.take 0) = [] := factsOf_eq List.Pairwise.nil (by simp)
 rw [e] at this
 exact this
end
end Go.Proofs.YtlhkeohcickiaaaGreatDoor.E

