/- Part 25 of 31 of the proof of ProtestOrder: lemmas, without conditions. -/
import Derived.Test.YtlhkeohcickiaaaGreatDoorKR24
set_option linter.all false
namespace Go.Proofs.YtlhkeohcickiaaaGreatDoor.E
open Go.RowKit Go.Proofs.YtlhkeohcickiaaaGreatDoor.H Go.Proofs.YtlhkeohcickiaaaGreatDoorW.PrintWords Go.Proofs.YtlhkeohcickiaaaGreatDoorW.PrintLast Go.Proofs.YtlhkeohcickiaaaGreatDoorW.PrintMore
section
open Prot (heldOf roundL roundP addL addOne mkLevel mkLevels at_ firesB Good Fits)
attribute [local go_sem] slk sget sput uponK_value uponK_skip uponK_enter
theorem lit_C {α : Type} (d : Kd α) (W : World) (g : Nat) (T : TypeId) (cs : Array Value) (xs : List α) (hg : W.heap[g]? = some (.cells cs T (0, 0))) (hl : xs.length ≤ 9223372036854775807)
  (h : ∀ j p, xs[j]? = some p → ∃ c, c.length = d.sz ∧ d.K W p c ∧ ∀ i u, c[i]? = some u → cs[j * d.sz + i]? = some u) : d.C W (some ⟨g, 0, none⟩) xs.length xs := by
 refine ⟨rfl, hl, fun _ => ⟨_, rfl, fun j p hj => ?_⟩⟩
 obtain ⟨c, h1, h2, h3⟩ := h j p hj
 refine ⟨c, h1, h2, fun i u hu => ?_⟩
 have := h3 i u hu
 have e : (⟨g, 0, none⟩ : Addr).add (j * d.sz + i) = ⟨g, j * d.sz + i, none⟩ := by
  unfold Addr.add
  split
  ·rename_i h0; rw [h0]
  ·simp
 rw [e]
 unfold World.cell?
 simp only [hg]
 exact this
theorem str_C (W : World) (g : Nat) (xs : List ByteArray) (hg : W.heap[g]? = some (.cells (xs.map Value.string).toArray 9 (0, 0))) (hl : xs.length ≤ 9223372036854775807) : Kd.C Kd.string W (some ⟨g, 0, none⟩) xs.length xs :=
 lit_C Kd.string W g 9 _ xs hg hl fun j p hj => ⟨[.string p], rfl, rfl, fun i u hu => by
  obtain ⟨hi, rfl⟩ : i = 0 ∧ u = .string p := by
   cases i with
   | zero => simp at hu; exact ⟨rfl, hu.symm⟩
   | succ n => simp at hu
  subst hi
  show (xs.map Value.string).toArray[j * 1 + 0]? = _
  simp [hj]⟩
theorem int_C (W : World) (g : Nat) (xs : List Int) (hg : W.heap[g]? = some (.cells (xs.map (Value.int .i64)).toArray 3 (0, 0))) (hl : xs.length ≤ 9223372036854775807) : Kd.C (Kd.int .i64) W (some ⟨g, 0, none⟩) xs.length xs :=
 lit_C (Kd.int .i64) W g 3 _ xs hg hl fun j p hj => ⟨[.int .i64 p], rfl, rfl, fun i u hu => by
  obtain ⟨hi, rfl⟩ : i = 0 ∧ u = .int .i64 p := by
   cases i with
   | zero => simp at hu; exact ⟨rfl, hu.symm⟩
   | succ n => simp at hu
  subst hi
  show (xs.map (Value.int .i64)).toArray[j * 1 + 0]? = _
  simp [hj]⟩
def cl (x : S25) (v3 v4 : Value) : List Value := [.string x.f0, .int .i64 x.f1, .int .i64 x.f2, v3, v4, .string x.f5]
theorem two_C (W : World) (g : Nat) (x y : S25) (A3 A4 B3 B4 : Option Addr) (c3 c4 d3 d4 : Nat) (hg : W.heap[g]? = some (.cells (cl x (.slice A3 x.f3.length c3) (.slice A4 x.f4.length c4) ++ cl y (.slice B3 y.f3.length d3) (.slice B4 y.f4.length d4)).toArray 25 (0, 0)))
  (a3 : Kd.C Kd.string W A3 x.f3.length x.f3) (l3 : x.f3.length ≤ c3) (a4 : Kd.C Kd.string W A4 x.f4.length x.f4) (l4 : x.f4.length ≤ c4) (b3 : Kd.C Kd.string W B3 y.f3.length y.f3) (m3 : y.f3.length ≤ d3) (b4 : Kd.C Kd.string W B4 y.f4.length y.f4) (m4 : y.f4.length ≤ d4) :
  Kd.C k25 W (some ⟨g, 0, none⟩) [x, y].length [x, y] :=
 lit_C k25 W g 25 _ [x, y] hg (by simp) fun j p hj => by
  have hsz : k25.sz = 6 := rfl
  rw [hsz]
  match j, hj with
  | 0, hj =>
   obtain rfl : x = p := by simpa using hj
   refine ⟨_, rfl, k25_mk W x l3 a3 l4 a4, fun i u hu => ?_⟩
   match i, hu with
   | 0, hu => simp at hu; subst hu; rfl
   | 1, hu => simp at hu; subst hu; rfl
   | 2, hu => simp at hu; subst hu; rfl
   | 3, hu => simp at hu; subst hu; rfl
   | 4, hu => simp at hu; subst hu; rfl
   | 5, hu => simp at hu; subst hu; rfl
   | n + 6, hu => simp at hu
  | 1, hj =>
   obtain rfl : y = p := by simpa using hj
   refine ⟨_, rfl, k25_mk W y m3 b3 m4 b4, fun i u hu => ?_⟩
   match i, hu with
   | 0, hu => simp at hu; subst hu; rfl
   | 1, hu => simp at hu; subst hu; rfl
   | 2, hu => simp at hu; subst hu; rfl
   | 3, hu => simp at hu; subst hu; rfl
   | 4, hu => simp at hu; subst hu; rfl
   | 5, hu => simp at hu; subst hu; rfl
   | n + 6, hu => simp at hu
  | n + 2, hj => simp at hj
theorem nil_C (W : World) : Kd.C Kd.string W none ([] : List ByteArray).length [] := ⟨rfl, by decide, fun h => absurd h (by decide)⟩
theorem buildE (s t : ByteArray) (n : Int) (A : Option Addr) (l c : Nat) (w : World) : (Instr.build 25 #[(0, .string s), (2, .int .i64 n), (3, .slice A l c), (5, .string t)]).run Tryz.prog w = .ok (.agg #[.string s, .int .i64 0, .int .i64 n, .slice A l c, .slice none 0 0, .string t]) w := by kernel_rfl
theorem buildG (s t : ByteArray) (m n : Int) (A B : Option Addr) (l c k d : Nat) (w : World) : (Instr.build 25 #[(0, .string s), (1, .int .i64 m), (2, .int .i64 n), (3, .slice A l c), (4, .slice B k d), (5, .string t)]).run Tryz.prog w = .ok (.agg #[.string s, .int .i64 m, .int .i64 n, .slice A l c, .slice B k d, .string t]) w := by kernel_rfl
theorem buildU (s t : ByteArray) (A : Option Addr) (l c : Nat) (w : World) : (Instr.build 25 #[(0, .string s), (4, .slice A l c), (5, .string t)]).run Tryz.prog w = .ok (.agg #[.string s, .int .i64 0, .int .i64 0, .slice none 0 0, .slice A l c, .string t]) w := by kernel_rfl
attribute [local go_sem] buildE buildG buildU
set_option maxRecDepth 100000 in
set_option maxHeartbeats 4000000 in
theorem sample_calls (w : World) : Calls Tryz.prog 36 #[] w fun e w' => ∃ A c, e = .returned (.slice A book0.length c) ∧ Kd.C k25 w' A book0.length book0 ∧ book0.length ≤ c ∧ Below w.heap.size w w' := by
 have hu25 := Tryz.underlying25
 refine callsK (args := []) Tryz.func36 rfl Tryz.ntmps36 (by simp) fun a HF0 => ?_
 have HF : Fr 7 [] [] a := HF0
 clear HF0
 refine wpIn_seq ?_
 refine wpIn_region_k (fun _ => trivial) rfl wideC HF fun K hK => ?_
 refine OpsK.step rfl rfl rfl ?_
 go_simp
 refine OpsK.nil (hK _ _ fun a' hf' => ?_)
 clear hK K HF
 have HF : Fr 7 [] [(0, .slice none 0 0)] a' := hf'.sub ⟨rfl, trivial⟩
 clear hf'
 refine wpIn_seq ?_
 refine wpIn_region_k (fun _ => trivial) rfl wideC HF fun K hK => ?_
 iterate 7 (refine OpsK.step rfl rfl rfl ?_; go_simp)
 refine OpsK.nil (hK _ _ fun a' hf' => ?_)
 clear hK K HF
 have HF : Fr 7 [] [(0, .slice (some ⟨w.heap.size + 1 + 1 + 1, 0, none⟩) 2 2)] a' := hf'.sub ⟨rfl, trivial⟩
 clear hf'
 have hL := (((((Laid.nil w).snoc (.cells ([sFirst].map Value.string).toArray 9)).snoc (.cells ([sEarly, sGone].map Value.string).toArray 9)).snoc (.cells ([sOwn].map Value.string).toArray 9)).snoc (.cells (cl ⟨sEarly, 0, 1000, [sFirst], [], sEarly⟩ (.slice (some ⟨w.heap.size, 0, none⟩) 1 1) (.slice none 0 0) ++ cl ⟨sGuard, 10, 1000, [sEarly, sGone], [sOwn], sFoul⟩ (.slice (some ⟨w.heap.size + 1, 0, none⟩) 2 2) (.slice (some ⟨w.heap.size + 1 + 1, 0, none⟩) 1 1)).toArray 25))
 refine wpIn_ret (HF.ret1 rfl rfl ?_)
 show ∃ A c, Ending.returned (Value.slice (some ⟨w.heap.size + 1 + 1 + 1, 0, none⟩) 2 2) = Ending.returned (Value.slice A 2 c) ∧ Kd.C k25 ((((w.alloc (.cells ([sFirst].map Value.string).toArray 9)).alloc (.cells ([sEarly, sGone].map Value.string).toArray 9)).alloc (.cells ([sOwn].map Value.string).toArray 9)).alloc (.cells (cl ⟨sEarly, 0, 1000, [sFirst], [], sEarly⟩ (.slice (some ⟨w.heap.size, 0, none⟩) 1 1) (.slice none 0 0) ++ cl ⟨sGuard, 10, 1000, [sEarly, sGone], [sOwn], sFoul⟩ (.slice (some ⟨w.heap.size + 1, 0, none⟩) 2 2) (.slice (some ⟨w.heap.size + 1 + 1, 0, none⟩) 1 1)).toArray 25)) A 2 book0 ∧ 2 ≤ c ∧ Below w.heap.size w ((((w.alloc (.cells ([sFirst].map Value.string).toArray 9)).alloc (.cells ([sEarly, sGone].map Value.string).toArray 9)).alloc (.cells ([sOwn].map Value.string).toArray 9)).alloc (.cells (cl ⟨sEarly, 0, 1000, [sFirst], [], sEarly⟩ (.slice (some ⟨w.heap.size, 0, none⟩) 1 1) (.slice none 0 0) ++ cl ⟨sGuard, 10, 1000, [sEarly, sGone], [sOwn], sFoul⟩ (.slice (some ⟨w.heap.size + 1, 0, none⟩) 2 2) (.slice (some ⟨w.heap.size + 1 + 1, 0, none⟩) 1 1)).toArray 25))
 generalize ((((w.alloc (.cells ([sFirst].map Value.string).toArray 9)).alloc (.cells ([sEarly, sGone].map Value.string).toArray 9)).alloc (.cells ([sOwn].map Value.string).toArray 9)).alloc (.cells (cl ⟨sEarly, 0, 1000, [sFirst], [], sEarly⟩ (.slice (some ⟨w.heap.size, 0, none⟩) 1 1) (.slice none 0 0) ++ cl ⟨sGuard, 10, 1000, [sEarly, sGone], [sOwn], sFoul⟩ (.slice (some ⟨w.heap.size + 1, 0, none⟩) 2 2) (.slice (some ⟨w.heap.size + 1 + 1, 0, none⟩) 1 1)).toArray 25)) = W at hL ⊢
 have g0 : W.heap[w.heap.size]? = _ := hL.heap (i := 0) rfl
 have g1 : W.heap[w.heap.size + 1]? = _ := hL.heap (i := 1) rfl
 have g2 : W.heap[w.heap.size + 1 + 1]? = _ := hL.heap (i := 2) rfl
 have g3 : W.heap[w.heap.size + 1 + 1 + 1]? = _ := hL.heap (i := 3) rfl
 exact ⟨_, _, rfl, two_C W _ _ _ _ _ _ _ _ _ _ _ g3 (str_C W _ [sFirst] g0 (by decide)) (by decide) (nil_C W) (Nat.le_refl _) (str_C W _ [sEarly, sGone] g1 (by decide)) (by decide) (str_C W _ [sOwn] g2 (by decide)) (by decide), by decide, hL.below⟩
end
end Go.Proofs.YtlhkeohcickiaaaGreatDoor.E

