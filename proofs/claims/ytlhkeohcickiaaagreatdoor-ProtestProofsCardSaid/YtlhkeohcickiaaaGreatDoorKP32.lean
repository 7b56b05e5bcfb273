/- Part 32 of 36 of the proof of ProtestProofs: lemmas, without conditions. -/
import Derived.Test.YtlhkeohcickiaaaGreatDoorKP29
import Derived.Sort.Walk0
import Derived.Test.YtlhkeohcickiaaaGreatDoorKP31
set_option linter.all false
namespace Go.Proofs.YtlhkeohcickiaaaGreatDoor.E
open Go.RowKit Go.Proofs.YtlhkeohcickiaaaGreatDoor.H Go.Proofs.YtlhkeohcickiaaaGreatDoorW.PrintWords Go.Proofs.YtlhkeohcickiaaaGreatDoorW.PrintLast Go.Proofs.YtlhkeohcickiaaaGreatDoorW.PrintMore
section
abbrev Strict (l : List ByteArray) : Prop := l.Pairwise fun a b => ltB a b = true
theorem ltB_iff (a b : ByteArray) : ltB a b = true ↔ a.data.toList < b.data.toList := by
 unfold ltB
 rw [Lib.toList_data, Lib.toList_data, bytesLess_eq]
 simp
theorem data_inj {a b : ByteArray} (h : a.data.toList = b.data.toList) : a = b := by
 rw [← Lib.mk_data a, ← Lib.mk_data b, h]
theorem ltB_trans {a b c : ByteArray} (h : ltB a b = true) (k : ltB b c = true) : ltB a c = true := by
 rw [ltB_iff] at *
 exact List.lt_trans h k
theorem ltB_irrefl (a : ByteArray) : ltB a a = false := by
 cases h : ltB a a with
 | false => rfl
 | true => rw [ltB_iff] at h; exact absurd h (List.lt_irrefl _)
theorem Strict.nodup {l : List ByteArray} (h : Strict l) : l.Nodup := h.imp fun {a b} hab e => by
 subst e
 rw [ltB_irrefl] at hab
 cases hab
theorem strict_ext {l1 l2 : List ByteArray} (h1 : Strict l1) (h2 : Strict l2) (h : ∀ x, x ∈ l1 ↔ x ∈ l2) : l1 = l2 :=
 List.Perm.eq_of_pairwise (le := fun a b => ltB a b = true) (fun a b _ _ hab hba => by
  have := ltB_trans hab hba
  rw [ltB_irrefl] at this
  cases this) h1 h2 ((List.perm_ext_iff_of_nodup h1.nodup h2.nodup).2 h)
theorem mem_risen {l : List ByteArray} {x : ByteArray} : x ∈ risen l ↔ x ∈ l := by
 unfold risen
 simp only [List.mem_map, List.mem_mergeSort]
 constructor
 ·rintro ⟨b, ⟨s, hs, rfl⟩, rfl⟩
  rwa [show (⟨s.data.toList.toArray⟩ : ByteArray) = s from Lib.mk_data s]
 ·intro h
  exact ⟨_, ⟨x, h, rfl⟩, Lib.mk_data x⟩
theorem risen_strict {l : List ByteArray} (h : l.Nodup) : Strict (risen l) := by
 have hp : ((l.map fun s => s.data.toList).mergeSort (fun x y => decide (x ≤ y))).Pairwise (fun a b => decide (a ≤ b) = true) :=
  List.pairwise_mergeSort (fun a b c h1 h2 => by simp only [decide_eq_true_eq] at *; exact List.le_trans h1 h2) (fun a b => by simp only [Bool.or_eq_true, decide_eq_true_eq]; exact List.le_total a b) _
 have hn : ((l.map fun s => s.data.toList).mergeSort (fun x y => decide (x ≤ y))).Nodup :=
  (List.mergeSort_perm _ _).nodup_iff.2 (h.map _ fun a b hab e => hab (data_inj e))
 unfold Strict risen
 rw [List.pairwise_map]
 refine (hp.and hn).imp ?_
 rintro a b ⟨h1, h2⟩
 rw [ltB_iff]
 simp only [decide_eq_true_eq] at h1
 show a.toArray.toList < b.toArray.toList
 simp only []
 rcases Classical.em (a < b) with h | h
 ·exact h
 ·exact absurd (List.le_antisymm h1 (List.not_lt.1 h)) h2
theorem factsOf_strict (held : List ByteArray) : Strict (factsOf held) := risen_strict (setOf_keys held).1
theorem mem_factsOf {held : List ByteArray} {x : ByteArray} : x ∈ factsOf held ↔ x ∈ held := by
 unfold factsOf
 rw [mem_risen]
 exact (setOf_keys held).2 x
theorem factsOf_eq {held l : List ByteArray} (h : Strict l) (hm : ∀ x, x ∈ l ↔ x ∈ held) : factsOf held = l :=
 strict_ext (factsOf_strict held) h fun x => mem_factsOf.trans (hm x).symm
end
section
open Prot (heldOf derive proveL)
theorem model_of {l0 : List S25} {m : List (ByteArray × Nat)} (hb : boundOf l0 = .ok m) {ed : Int} {facts : List ByteArray} {o : List Nat} (h : madeOf m l0 ed facts = .ok o) : Prot.Model ed (l0.map toC) facts o :=
 (made_good (okBook hb) h).1.model (okBook hb).fit (made_good (okBook hb) h).2
def sEarly : ByteArray := { data := #[101, 97, 114, 108, 121] }
def sFirst : ByteArray := { data := #[102, 105, 114, 115, 116, 45, 102, 111, 117, 114] }
def sGone : ByteArray := { data := #[103, 117, 97, 114, 100, 45, 103, 111, 110, 101] }
def sOwn : ByteArray := { data := #[111, 119, 110, 45, 103, 117, 97, 114, 100] }
def sGuard : ByteArray := { data := #[103, 117, 97, 114, 100] }
def sFoul : ByteArray := { data := #[102, 111, 117, 108] }
def sA : ByteArray := { data := #[97] }
def sB : ByteArray := { data := #[98] }
def sC : ByteArray := { data := #[99] }
def sText : ByteArray := { data := #[103, 117, 97, 114, 100, 58, 32, 102, 111, 117, 108, 32, 105, 102, 32, 101, 97, 114, 108, 121, 44, 32, 103, 117, 97, 114, 100, 45, 103, 111, 110, 101, 32, 117, 110, 108, 101, 115, 115, 32, 111, 119, 110, 45, 103, 117, 97, 114, 100, 10] }
def book0 : List S25 := [⟨sEarly, 0, 1000, [sFirst], [], sEarly⟩, ⟨sGuard, 10, 1000, [sEarly, sGone], [sOwn], sFoul⟩]
def book1 : List S25 := [⟨sA, 0, 0, [], [sB], sC⟩, ⟨sB, 0, 0, [], [sC], sB⟩]
def facts0 : List ByteArray := [sFirst, sGone]
theorem bound0 : boundOf book0 = .ok [(sFoul, 1)] := by kernel_rfl
theorem made0 : madeOf [(sFoul, 1)] book0 10 facts0 = .ok [0, 1] := by kernel_rfl
theorem asked0 : askedOf book0 10 facts0 = .ok ([(sFoul, 1)], [0, 1]) := by kernel_rfl
theorem asked9 : askedOf book0 9 facts0 = .ok ([(sFoul, 1)], [0]) := by kernel_rfl
theorem holds0 : holdsOf book0 10 facts0 = .ok [sEarly, sFirst, sFoul, sGone] := by
 rw [holds_of bound0 made0, factsOf_eq (l := [sEarly, sFirst, sFoul, sGone]) ?_ ?_]
 ·have h1 : ltB sEarly sFirst = true := by kernel_rfl
  have h2 : ltB sFirst sFoul = true := by kernel_rfl
  have h3 : ltB sFoul sGone = true := by kernel_rfl
  simp [Strict, h1, h2, h3, ltB_trans h1 h2, ltB_trans (ltB_trans h1 h2) h3, ltB_trans h2 h3]
 ·intro x
  have : heldOf (book0.map toC) facts0 [0, 1] = [sFirst, sGone, sEarly, sFoul] := by kernel_rfl
  rw [this]
  simp only [List.mem_cons, List.not_mem_nil, or_false]
  constructor
  ·rintro (h | h | h | h) <;> simp [h]
  ·rintro (h | h | h | h) <;> simp [h]
theorem why0 : whyOf book0 10 facts0 sFoul = .ok [0, 1] := by
 unfold whyOf
 rw [asked0]
 have h1 : nameB sFoul = true := by kernel_rfl
 have h2 : has (setOf (heldOf (book0.map toC) facts0 [0, 1])) sFoul = true := by kernel_rfl
 have h3 : derive (book0.map toC) [0, 1] sFoul = [0, 1] := by
  rw [← Prot.whyR_derive (model_of bound0 made0) sFoul]
  kernel_rfl
 simp only [h1, h2, h3, if_true]
 rfl
theorem why9 : whyOf book0 9 facts0 sFoul = .error (-1, 7) := by
 unfold whyOf
 rw [asked9]
 have h1 : nameB sFoul = true := by kernel_rfl
 have h2 : has (setOf (heldOf (book0.map toC) facts0 [0])) sFoul = false := by kernel_rfl
 simp only [h1, h2, if_true]
 rfl
theorem proves0 : provesOf book0 10 facts0 [1, 0] sFoul = .ok (false, 0) := by kernel_rfl
theorem text0 : textOf book0 [1] = .ok sText := by kernel_rfl
theorem chk0 : boundOf book1 = .error (-1, 9) := by kernel_rfl
end
section
open Prot (heldOf roundL roundP addL addOne mkLevel mkLevels at_ firesB Good Fits)
attribute [local go_sem] slk sget sput uponK_value uponK_skip uponK_enter
theorem lit_C {α : Type} (d : Kd α) (W : World) (g : Nat) (T : TypeId) (cs : Array Value) (xs : List α) (hg : W.heap[g]? = some (.cells cs T (0, 0))) (hl : xs.length ≤ 9223372036854775807)
  (h : ∀ j p, xs[j]? = some p → ∃ c, c.length = d.sz ∧ d.K W p c ∧ ∀ i u, c[i]? = some u → cs[j * d.sz + i]? = some u) : d.C W (some ⟨g, 0, none⟩) xs.length xs := by
 refine ⟨rfl, hl, fun _ => ⟨_, rfl, fun j p hj => ?_⟩⟩
 obtain ⟨c, h1, h2, h3⟩ := h j p hj
 refine ⟨c, h1, h2, fun i u hu => ?_⟩
 have := h3 i u hu
 have e : (⟨g, 0, none⟩ : Addr).add (j * d.sz + i) = ⟨g, j * d.sz + i, none⟩ := by
  unfold Addr.add
  split
  ·rename_i h0; rw [h0]
  ·simp
 rw [e]
 unfold World.cell?
 simp only [hg]
 exact this
theorem str_C (W : World) (g : Nat) (xs : List ByteArray) (hg : W.heap[g]? = some (.cells (xs.map Value.string).toArray 9 (0, 0))) (hl : xs.length ≤ 9223372036854775807) : Kd.C Kd.string W (some ⟨g, 0, none⟩) xs.length xs :=
 lit_C Kd.string W g 9 _ xs hg hl fun j p hj => ⟨[.string p], rfl, rfl, fun i u hu => by
  obtain ⟨hi, rfl⟩ : i = 0 ∧ u = .string p := by
   cases i with
   | zero => simp at hu; exact ⟨rfl, hu.symm⟩
   | succ n => simp at hu
  subst hi
  show (xs.map Value.string).toArray[j * 1 + 0]? = _
  simp [hj]⟩
theorem int_C (W : World) (g : Nat) (xs : List Int) (hg : W.heap[g]? = some (.cells (xs.map (Value.int .i64)).toArray 3 (0, 0))) (hl : xs.length ≤ 9223372036854775807) : Kd.C (Kd.int .i64) W (some ⟨g, 0, none⟩) xs.length xs :=
 lit_C (Kd.int .i64) W g 3 _ xs hg hl fun j p hj => ⟨[.int .i64 p], rfl, rfl, fun i u hu => by
  obtain ⟨hi, rfl⟩ : i = 0 ∧ u = .int .i64 p := by
   cases i with
   | zero => simp at hu; exact ⟨rfl, hu.symm⟩
   | succ n => simp at hu
  subst hi
  show (xs.map (Value.int .i64)).toArray[j * 1 + 0]? = _
  simp [hj]⟩
def cl (x : S25) (v3 v4 : Value) : List Value := [.string x.f0, .int .i64 x.f1, .int .i64 x.f2, v3, v4, .string x.f5]
theorem two_C (W : World) (g : Nat) (x y : S25) (A3 A4 B3 B4 : Option Addr) (c3 c4 d3 d4 : Nat) (hg : W.heap[g]? = some (.cells (cl x (.slice A3 x.f3.length c3) (.slice A4 x.f4.length c4) ++ cl y (.slice B3 y.f3.length d3) (.slice B4 y.f4.length d4)).toArray 25 (0, 0)))
  (a3 : Kd.C Kd.string W A3 x.f3.length x.f3) (l3 : x.f3.length ≤ c3) (a4 : Kd.C Kd.string W A4 x.f4.length x.f4) (l4 : x.f4.length ≤ c4) (b3 : Kd.C Kd.string W B3 y.f3.length y.f3) (m3 : y.f3.length ≤ d3) (b4 : Kd.C Kd.string W B4 y.f4.length y.f4) (m4 : y.f4.length ≤ d4) :
  Kd.C k25 W (some ⟨g, 0, none⟩) [x, y].length [x, y] :=
 lit_C k25 W g 25 _ [x, y] hg (by simp) fun j p hj => by
  have hsz : k25.sz = 6 := rfl
  rw [hsz]
  match j, hj with
  | 0, hj =>
   obtain rfl : x = p := by simpa using hj
   refine ⟨_, rfl, k25_mk W x l3 a3 l4 a4, fun i u hu => ?_⟩
   match i, hu with
   | 0, hu => simp at hu; subst hu; rfl
   | 1, hu => simp at hu; subst hu; rfl
   | 2, hu => simp at hu; subst hu; rfl
   | 3, hu => simp at hu; subst hu; rfl
   | 4, hu => simp at hu; subst hu; rfl
   | 5, hu => simp at hu; subst hu; rfl
   | n + 6, hu => simp at hu
  | 1, hj =>
   obtain rfl : y = p := by simpa using hj
   refine ⟨_, rfl, k25_mk W y m3 b3 m4 b4, fun i u hu => ?_⟩
   match i, hu with
   | 0, hu => simp at hu; subst hu; rfl
   | 1, hu => simp at hu; subst hu; rfl
   | 2, hu => simp at hu; subst hu; rfl
   | 3, hu => simp at hu; subst hu; rfl
   | 4, hu => simp at hu; subst hu; rfl
   | 5, hu => simp at hu; subst hu; rfl
   | n + 6, hu => simp at hu
  | n + 2, hj => simp at hj
theorem nil_C (W : World) : Kd.C Kd.string W none ([] : List ByteArray).length [] := ⟨rfl, by decide, fun h => absurd h (by decide)⟩
theorem buildE (s t : ByteArray) (n : Int) (A : Option Addr) (l c : Nat) (w : World) : (Instr.build 25 #[(0, .string s), (2, .int .i64 n), (3, .slice A l c), (5, .string t)]).run Tryz.prog w = .ok (.agg #[.string s, .int .i64 0, .int .i64 n, .slice A l c, .slice none 0 0, .string t]) w := by kernel_rfl
theorem buildG (s t : ByteArray) (m n : Int) (A B : Option Addr) (l c k d : Nat) (w : World) : (Instr.build 25 #[(0, .string s), (1, .int .i64 m), (2, .int .i64 n), (3, .slice A l c), (4, .slice B k d), (5, .string t)]).run Tryz.prog w = .ok (.agg #[.string s, .int .i64 m, .int .i64 n, .slice A l c, .slice B k d, .string t]) w := by kernel_rfl
theorem buildU (s t : ByteArray) (A : Option Addr) (l c : Nat) (w : World) : (Instr.build 25 #[(0, .string s), (4, .slice A l c), (5, .string t)]).run Tryz.prog w = .ok (.agg #[.string s, .int .i64 0, .int .i64 0, .slice none 0 0, .slice A l c, .string t]) w := by kernel_rfl
attribute [local go_sem] buildE buildG buildU
set_option maxRecDepth 100000 in
set_option maxHeartbeats 4000000 in
theorem sample_calls (w : World) : Calls Tryz.prog 36 #[] w fun e w' => ∃ A c, e = .returned (.slice A book0.length c) ∧ Kd.C k25 w' A book0.length book0 ∧ book0.length ≤ c ∧ Below w.heap.size w w' := by
 have hu25 := Tryz.underlying25
 refine callsK (args := []) Tryz.func36 rfl Tryz.ntmps36 (by simp) fun a HF0 => ?_
 have HF : Fr 7 [] [] a := HF0
 clear HF0
 refine wpIn_seq ?_
 refine wpIn_region_k (fun _ => trivial) rfl wideC HF fun K hK => ?_
 refine OpsK.step rfl rfl rfl ?_
 go_simp
 refine OpsK.nil (hK _ _ fun a' hf' => ?_)
 clear hK K HF
 have HF : Fr 7 [] [(0, .slice none 0 0)] a' := hf'.sub ⟨rfl, trivial⟩
 clear hf'
 refine wpIn_seq ?_
 refine wpIn_region_k (fun _ => trivial) rfl wideC HF fun K hK => ?_
 iterate 7 (refine OpsK.step rfl rfl rfl ?_; go_simp)
 refine OpsK.nil (hK _ _ fun a' hf' => ?_)
 clear hK K HF
 have HF : Fr 7 [] [(0, .slice (some ⟨w.heap.size + 1 + 1 + 1, 0, none⟩) 2 2)] a' := hf'.sub ⟨rfl, trivial⟩
 clear hf'
 have hL := (((((Laid.nil w).snoc (.cells ([sFirst].map Value.string).toArray 9)).snoc (.cells ([sEarly, sGone].map Value.string).toArray 9)).snoc (.cells ([sOwn].map Value.string).toArray 9)).snoc (.cells (cl ⟨sEarly, 0, 1000, [sFirst], [], sEarly⟩ (.slice (some ⟨w.heap.size, 0, none⟩) 1 1) (.slice none 0 0) ++ cl ⟨sGuard, 10, 1000, [sEarly, sGone], [sOwn], sFoul⟩ (.slice (some ⟨w.heap.size + 1, 0, none⟩) 2 2) (.slice (some ⟨w.heap.size + 1 + 1, 0, none⟩) 1 1)).toArray 25))
 refine wpIn_ret (HF.ret1 rfl rfl ?_)
 show ∃ A c, Ending.returned (Value.slice (some ⟨w.heap.size + 1 + 1 + 1, 0, none⟩) 2 2) = Ending.returned (Value.slice A 2 c) ∧ Kd.C k25 ((((w.alloc (.cells ([sFirst].map Value.string).toArray 9)).alloc (.cells ([sEarly, sGone].map Value.string).toArray 9)).alloc (.cells ([sOwn].map Value.string).toArray 9)).alloc (.cells (cl ⟨sEarly, 0, 1000, [sFirst], [], sEarly⟩ (.slice (some ⟨w.heap.size, 0, none⟩) 1 1) (.slice none 0 0) ++ cl ⟨sGuard, 10, 1000, [sEarly, sGone], [sOwn], sFoul⟩ (.slice (some ⟨w.heap.size + 1, 0, none⟩) 2 2) (.slice (some ⟨w.heap.size + 1 + 1, 0, none⟩) 1 1)).toArray 25)) A 2 book0 ∧ 2 ≤ c ∧ Below w.heap.size w ((((w.alloc (.cells ([sFirst].map Value.string).toArray 9)).alloc (.cells ([sEarly, sGone].map Value.string).toArray 9)).alloc (.cells ([sOwn].map Value.string).toArray 9)).alloc (.cells (cl ⟨sEarly, 0, 1000, [sFirst], [], sEarly⟩ (.slice (some ⟨w.heap.size, 0, none⟩) 1 1) (.slice none 0 0) ++ cl ⟨sGuard, 10, 1000, [sEarly, sGone], [sOwn], sFoul⟩ (.slice (some ⟨w.heap.size + 1, 0, none⟩) 2 2) (.slice (some ⟨w.heap.size + 1 + 1, 0, none⟩) 1 1)).toArray 25))
 generalize ((((w.alloc (.cells ([sFirst].map Value.string).toArray 9)).alloc (.cells ([sEarly, sGone].map Value.string).toArray 9)).alloc (.cells ([sOwn].map Value.string).toArray 9)).alloc (.cells (cl ⟨sEarly, 0, 1000, [sFirst], [], sEarly⟩ (.slice (some ⟨w.heap.size, 0, none⟩) 1 1) (.slice none 0 0) ++ cl ⟨sGuard, 10, 1000, [sEarly, sGone], [sOwn], sFoul⟩ (.slice (some ⟨w.heap.size + 1, 0, none⟩) 2 2) (.slice (some ⟨w.heap.size + 1 + 1, 0, none⟩) 1 1)).toArray 25)) = W at hL ⊢
 have g0 : W.heap[w.heap.size]? = _ := hL.heap (i := 0) rfl
 have g1 : W.heap[w.heap.size + 1]? = _ := hL.heap (i := 1) rfl
 have g2 : W.heap[w.heap.size + 1 + 1]? = _ := hL.heap (i := 2) rfl
 have g3 : W.heap[w.heap.size + 1 + 1 + 1]? = _ := hL.heap (i := 3) rfl
 exact ⟨_, _, rfl, two_C W _ _ _ _ _ _ _ _ _ _ _ g3 (str_C W _ [sFirst] g0 (by decide)) (by decide) (nil_C W) (Nat.le_refl _) (str_C W _ [sEarly, sGone] g1 (by decide)) (by decide) (str_C W _ [sOwn] g2 (by decide)) (by decide), by decide, hL.below⟩
end
section
open Prot (heldOf roundL roundP addL addOne mkLevel mkLevels at_ firesB Good Fits)
attribute [local go_sem] slk sget sput uponK_value uponK_skip uponK_enter
def besomlaw09_awake.f : Option Bool := some true
theorem same0 : besomref09_Same.f 10 [sEarly, sFirst, sFoul, sGone] [sEarly, sFirst, sFoul, sGone] = some true := by kernel_rfl
theorem ints0 : besomref02_Ints.f 10 [0, 1] [0, 1] = some true := by kernel_rfl
attribute [local go_sem] buildE buildG buildU
set_option maxRecDepth 100000 in
set_option maxHeartbeats 4000000 in
theorem awake_true (w : World) : Calls Tryz.prog 11 #[] w fun e w' => e = .returned (.bool true) ∧ Below w.heap.size w w' := by
 have hu25 := Tryz.underlying25
 refine callsK (args := []) Tryz.func11 rfl Tryz.ntmps11 (by simp) fun a HF0 => ?_
 have HF : Fr 107 [] [] a := HF0
 clear HF0
 refine wpIn_seq ?_
 refine wpIn_region_k (fun _ => trivial) rfl wideC HF fun K hK => ?_
 refine OpsK.step rfl rfl rfl ?_
 go_simp
 refine OpsK.nil (hK _ _ fun a' hf' => ?_)
 clear hK K HF
 have HF : Fr 107 [] [(0, .bool false)] a' := hf'.sub ⟨rfl, trivial⟩
 clear hf'
 refine wpIn_seq ?_
 refine wpIn_region_k (fun _ => trivial) rfl wideC HF fun K hK => ?_
 iterate 2 (refine OpsK.step rfl rfl rfl ?_; go_simp)
 refine OpsK.nil (hK _ _ fun a' hf' => ?_)
 clear hK K HF
 have HF : Fr 107 [] [(1, .slice (some ⟨w.heap.size, 0, none⟩) 2 2)] a' := hf'.sub ⟨rfl, trivial⟩
 clear hf'
 have hL := (Laid.nil w).snoc (.cells (facts0.map Value.string).toArray 9)
 show Code.wpIn _ _ _ _ _ _ (w.alloc (.cells (facts0.map Value.string).toArray 9))
 obtain ⟨fb, hfb⟩ : ∃ fb, fb = w.heap.size := ⟨_, rfl⟩
 rw [← hfb] at HF
 generalize w.alloc (.cells (facts0.map Value.string).toArray 9) = W0 at hL ⊢
 have g0 : W0.heap[w.heap.size]? = _ := hL.heap (i := 0) rfl
 rw [← hfb] at g0
 have HB0 := Aside0.mk hL.below
 have HF0 := Aside0.mk (str_C W0 fb facts0 g0 (by decide))
 clear hL hfb g0
 refine wpIn_seq ?_
 refine wpIn_region_k (fun _ => trivial) rfl wideC HF fun K hK => ?_
 refine OpsK.step rfl rfl rfl ?_
 go_simp
 refine (sample_calls W0).mono ?_
 rintro e W1 ⟨As, cs, rfl, hC, hc, hb⟩
 have HB1 := Aside0.mk (below_then HB0.out HB0.out.size hb)
 have HF1 := Aside0.mk (Kd.C_below HF0.out hb)
 clear HB0 HF0
 have HS1 := Aside0.mk hC
 have HSC := Aside0.mk hc
 clear hC hc hb
 dsimp only
 iterate 2 (refine OpsK.step rfl rfl rfl ?_; go_simp)
 refine (protest_Holds.calls As cs book0 10 (some ⟨fb, 0, none⟩) 2 facts0 _ _ W1 HS1.out HSC.out HF1.out (by decide) (show protest_Holds.f book0 10 facts0 = some ([sEarly, sFirst, sFoul, sGone], 0) from by unfold protest_Holds.f; rw [holds0])).mono ?_
 rintro e W2 ⟨v0, rfl, hR, hb⟩
 obtain ⟨Al, cl, rfl⟩ := Kd.R_slice hR
 have HL2 := Aside0.mk (Kd.R_reads' hR).2.2
 have HLC := Aside0.mk (Kd.R_reads' hR).2.1
 have HB2 := Aside0.mk (below_then HB1.out HB1.out.size hb)
 have HF2 := Aside0.mk (Kd.C_below HF1.out hb)
 clear HB1 HF1
 clear hb hR
 dsimp only
 iterate 5 (refine OpsK.step rfl rfl rfl ?_; go_simp)
 refine OpsK.nil (hK _ _ fun a' hf' => ?_)
 clear hK K HF
 have HF : Fr 107 [] [(1, .slice (some ⟨fb, 0, none⟩) 2 2), (2, .slice Al 4 cl), (3, .int .i64 0)] a' := hf'.sub ⟨rfl, rfl, rfl, trivial⟩
 clear hf'
 refine wpIn_seq ?_
 refine wpIn_region_k (fun _ => trivial) rfl wideC HF fun K hK => ?_
 refine OpsK.step rfl rfl rfl ?_
 go_simp
 refine (sample_calls W2).mono ?_
 rintro e W3 ⟨As, cs, rfl, hC, hc, hb⟩
 have HB3 := Aside0.mk (below_then HB2.out HB2.out.size hb)
 have HF3 := Aside0.mk (Kd.C_below HF2.out hb)
 have HL3 := Aside0.mk (Kd.C_below HL2.out hb)
 clear HB2 HF2 HL2
 have HS3 := Aside0.mk hC
 have HSC := Aside0.mk hc
 clear hC hc hb
 dsimp only
 iterate 2 (refine OpsK.step rfl rfl rfl ?_; go_simp)
 refine (protest_Why.calls As cs book0 10 (some ⟨fb, 0, none⟩) 2 facts0 sFoul _ _ W3 HS3.out HSC.out HF3.out (by decide) (show protest_Why.f book0 10 facts0 sFoul = some ([0, 1], 0) from by unfold protest_Why.f; rw [why0])).mono ?_
 rintro e W4 ⟨v0, rfl, hR, hb⟩
 obtain ⟨Aw, cw, rfl⟩ := Kd.R_slice hR
 have HY4 := Aside0.mk (Kd.R_reads' hR).2.2
 have HYC := Aside0.mk (Kd.R_reads' hR).2.1
 have HB4 := Aside0.mk (below_then HB3.out HB3.out.size hb)
 have HF4 := Aside0.mk (Kd.C_below HF3.out hb)
 have HL4 := Aside0.mk (Kd.C_below HL3.out hb)
 clear HB3 HF3 HL3
 clear hb hR
 dsimp only
 iterate 5 (refine OpsK.step rfl rfl rfl ?_; go_simp)
 refine OpsK.nil (hK _ _ fun a' hf' => ?_)
 clear hK K HF
 have HF : Fr 107 [] [(1, .slice (some ⟨fb, 0, none⟩) 2 2), (2, .slice Al 4 cl), (3, .int .i64 0), (4, .slice Aw 2 cw), (5, .int .i64 0)] a' := hf'.sub ⟨rfl, rfl, rfl, rfl, rfl, trivial⟩
 clear hf'
 refine wpIn_seq ?_
 refine wpIn_region_k (fun _ => trivial) rfl wideC HF fun K hK => ?_
 refine OpsK.step rfl rfl rfl ?_
 go_simp
 refine (sample_calls W4).mono ?_
 rintro e W5 ⟨As, cs, rfl, hC, hc, hb⟩
 have HB5 := Aside0.mk (below_then HB4.out HB4.out.size hb)
 have HF5 := Aside0.mk (Kd.C_below HF4.out hb)
 have HL5 := Aside0.mk (Kd.C_below HL4.out hb)
 have HY5 := Aside0.mk (Kd.C_below HY4.out hb)
 clear HB4 HF4 HL4 HY4
 have HS5 := Aside0.mk hC
 have HSC := Aside0.mk hc
 clear hC hc hb
 dsimp only
 iterate 2 (refine OpsK.step rfl rfl rfl ?_; go_simp)
 refine (protest_Why.calls As cs book0 9 (some ⟨fb, 0, none⟩) 2 facts0 sFoul _ _ W5 HS5.out HSC.out HF5.out (by decide) (show protest_Why.f book0 9 facts0 sFoul = some ([], 7) from by unfold protest_Why.f; rw [why9])).mono ?_
 rintro e W6 ⟨v0, rfl, hR, hb⟩
 obtain ⟨Az, cz, rfl⟩ := Kd.R_slice hR
 have HB6 := Aside0.mk (below_then HB5.out HB5.out.size hb)
 have HF6 := Aside0.mk (Kd.C_below HF5.out hb)
 have HL6 := Aside0.mk (Kd.C_below HL5.out hb)
 have HY6 := Aside0.mk (Kd.C_below HY5.out hb)
 clear HB5 HF5 HL5 HY5
 clear hb hR
 dsimp only
 iterate 5 (refine OpsK.step rfl rfl rfl ?_; go_simp)
 refine OpsK.nil (hK _ _ fun a' hf' => ?_)
 clear hK K HF
 have HF : Fr 107 [] [(1, .slice (some ⟨fb, 0, none⟩) 2 2), (2, .slice Al 4 cl), (3, .int .i64 0), (4, .slice Aw 2 cw), (5, .int .i64 0), (7, .int .i64 7)] a' := hf'.sub ⟨rfl, rfl, rfl, rfl, rfl, rfl, trivial⟩
 clear hf'
 refine wpIn_seq ?_
 refine wpIn_region_k (fun _ => trivial) rfl wideC HF fun K hK => ?_
 refine OpsK.step rfl rfl rfl ?_
 go_simp
 refine (sample_calls W6).mono ?_
 rintro e W7 ⟨As, cs, rfl, hC, hc, hb⟩
 have HB7 := Aside0.mk (below_then HB6.out HB6.out.size hb)
 have HF7 := Aside0.mk (Kd.C_below HF6.out hb)
 have HL7 := Aside0.mk (Kd.C_below HL6.out hb)
 have HY7 := Aside0.mk (Kd.C_below HY6.out hb)
 clear HB6 HF6 HL6 HY6
 have HS7 := Aside0.mk hC
 have HSC := Aside0.mk hc
 clear hC hc hb
 dsimp only
 iterate 2 (refine OpsK.step rfl rfl rfl ?_; go_simp)
 show OpsK _ _ _ _ _ _ (W7.alloc (Obj.cells (([1, 0] : List Int).map (Value.int .i64)).toArray 3)) _
 have hb : Below W7.heap.size W7 (W7.alloc (Obj.cells (([1, 0] : List Int).map (Value.int .i64)).toArray 3)) := (Below.refl _ _).alloc (Nat.le_refl _) _
 have hg : (W7.alloc (Obj.cells (([1, 0] : List Int).map (Value.int .i64)).toArray 3)).heap[W7.heap.size]? = some (Obj.cells (([1, 0] : List Int).map (Value.int .i64)).toArray 3) := World.alloc_heap_new W7 _
 skip
 obtain ⟨g7, hgg⟩ : ∃ g, g = W7.heap.size := ⟨_, rfl⟩
 rw [← hgg] at hg ⊢
 generalize W7.alloc (Obj.cells (([1, 0] : List Int).map (Value.int .i64)).toArray 3) = W8 at hb hg ⊢
 have HB8 := Aside0.mk (below_then HB7.out HB7.out.size hb)
 have HF8 := Aside0.mk (Kd.C_below HF7.out hb)
 have HL8 := Aside0.mk (Kd.C_below HL7.out hb)
 have HY8 := Aside0.mk (Kd.C_below HY7.out hb)
 clear HB7 HF7 HL7 HY7
 have HST := Aside0.mk (int_C W8 g7 [1, 0] hg (by decide))
 have HS8 := Aside0.mk (Kd.C_below HS7.out hb)
 clear hb hg hgg
 refine OpsK.step rfl rfl rfl ?_
 go_simp
 refine (protest_Proves.calls As cs book0 10 (some ⟨fb, 0, none⟩) 2 facts0 (some ⟨g7, 0, none⟩) 2 [1, 0] sFoul _ _ _ W8 HS8.out HSC.out HF8.out (by decide) HST.out (by decide) (show protest_Proves.f book0 10 facts0 [1, 0] sFoul = some (false, 0, 0) from by unfold protest_Proves.f; rw [proves0])).mono ?_
 rintro e W9 ⟨rfl, hb⟩
 have HB9 := Aside0.mk (below_then HB8.out HB8.out.size hb)
 have HF9 := Aside0.mk (Kd.C_below HF8.out hb)
 have HL9 := Aside0.mk (Kd.C_below HL8.out hb)
 have HY9 := Aside0.mk (Kd.C_below HY8.out hb)
 clear HB8 HF8 HL8 HY8
 clear hb
 dsimp only
 iterate 7 (refine OpsK.step rfl rfl rfl ?_; go_simp)
 refine OpsK.nil (hK _ _ fun a' hf' => ?_)
 clear hK K HF
 have HF : Fr 107 [] [(1, .slice (some ⟨fb, 0, none⟩) 2 2), (2, .slice Al 4 cl), (3, .int .i64 0), (4, .slice Aw 2 cw), (5, .int .i64 0), (7, .int .i64 7), (8, .bool false), (9, .int .i64 0), (10, .int .i64 0)] a' := hf'.sub ⟨rfl, rfl, rfl, rfl, rfl, rfl, rfl, rfl, rfl, trivial⟩
 clear hf'
 refine wpIn_seq ?_
 refine wpIn_region_k (fun _ => trivial) rfl wideC HF fun K hK => ?_
 refine OpsK.step rfl rfl rfl ?_
 go_simp
 refine (sample_calls W9).mono ?_
 rintro e W10 ⟨As, cs, rfl, hC, hc, hb⟩
 have HB10 := Aside0.mk (below_then HB9.out HB9.out.size hb)
 have HF10 := Aside0.mk (Kd.C_below HF9.out hb)
 have HL10 := Aside0.mk (Kd.C_below HL9.out hb)
 have HY10 := Aside0.mk (Kd.C_below HY9.out hb)
 clear HB9 HF9 HL9 HY9
 have HS10 := Aside0.mk hC
 have HSC := Aside0.mk hc
 clear hC hc hb
 dsimp only
 refine OpsK.step rfl rfl rfl ?_
 go_simp
 show OpsK _ _ _ _ _ _ (W10.alloc (Obj.cells (([1] : List Int).map (Value.int .i64)).toArray 3)) _
 have hb : Below W10.heap.size W10 (W10.alloc (Obj.cells (([1] : List Int).map (Value.int .i64)).toArray 3)) := (Below.refl _ _).alloc (Nat.le_refl _) _
 have hg : (W10.alloc (Obj.cells (([1] : List Int).map (Value.int .i64)).toArray 3)).heap[W10.heap.size]? = some (Obj.cells (([1] : List Int).map (Value.int .i64)).toArray 3) := World.alloc_heap_new W10 _
 skip
 obtain ⟨g10, hgg⟩ : ∃ g, g = W10.heap.size := ⟨_, rfl⟩
 rw [← hgg] at hg ⊢
 generalize W10.alloc (Obj.cells (([1] : List Int).map (Value.int .i64)).toArray 3) = W11 at hb hg ⊢
 have HB11 := Aside0.mk (below_then HB10.out HB10.out.size hb)
 have HF11 := Aside0.mk (Kd.C_below HF10.out hb)
 have HL11 := Aside0.mk (Kd.C_below HL10.out hb)
 have HY11 := Aside0.mk (Kd.C_below HY10.out hb)
 clear HB10 HF10 HL10 HY10
 have HST := Aside0.mk (int_C W11 g10 [1] hg (by decide))
 have HS11 := Aside0.mk (Kd.C_below HS10.out hb)
 clear hb hg hgg
 refine OpsK.step rfl rfl rfl ?_
 go_simp
 refine (protest_Text.calls As cs book0 (some ⟨g10, 0, none⟩) 1 [1] _ _ W11 HS11.out HSC.out HST.out (by decide) (show protest_Text.f book0 [1] = some (sText, 0) from by unfold protest_Text.f; rw [if_pos (by decide), text0])).mono ?_
 rintro e W12 ⟨rfl, hb⟩
 have HB12 := Aside0.mk (below_then HB11.out HB11.out.size hb)
 have HF12 := Aside0.mk (Kd.C_below HF11.out hb)
 have HL12 := Aside0.mk (Kd.C_below HL11.out hb)
 have HY12 := Aside0.mk (Kd.C_below HY11.out hb)
 clear HB11 HF11 HL11 HY11
 clear hb
 dsimp only
 iterate 5 (refine OpsK.step rfl rfl rfl ?_; go_simp)
 refine OpsK.nil (hK _ _ fun a' hf' => ?_)
 clear hK K HF
 have HF : Fr 107 [] [(1, .slice (some ⟨fb, 0, none⟩) 2 2), (2, .slice Al 4 cl), (3, .int .i64 0), (4, .slice Aw 2 cw), (5, .int .i64 0), (7, .int .i64 7), (8, .bool false), (9, .int .i64 0), (10, .int .i64 0), (11, .string { data := #[103, 117, 97, 114, 100, 58, 32, 102, 111, 117, 108, 32, 105, 102, 32, 101, 97, 114, 108, 121, 44, 32, 103, 117, 97, 114, 100, 45, 103, 111, 110, 101, 32, 117, 110, 108, 101, 115, 115, 32, 111, 119, 110, 45, 103, 117, 97, 114, 100, 10] }), (12, .int .i64 0)] a' := hf'.sub ⟨rfl, rfl, rfl, rfl, rfl, rfl, rfl, rfl, rfl, rfl, rfl, trivial⟩
 clear hf'
 refine wpIn_seq ?_
 refine wpIn_region_k (fun _ => trivial) rfl wideC HF fun K hK => ?_
 refine OpsK.step rfl rfl rfl ?_
 go_simp
 show OpsK _ _ _ _ _ _ (W12.alloc (Obj.cells ([sB].map Value.string).toArray 9)) _
 have hb : Below W12.heap.size W12 (W12.alloc (Obj.cells ([sB].map Value.string).toArray 9)) := (Below.refl _ _).alloc (Nat.le_refl _) _
 have hg : (W12.alloc (Obj.cells ([sB].map Value.string).toArray 9)).heap[W12.heap.size]? = some (Obj.cells ([sB].map Value.string).toArray 9) := World.alloc_heap_new W12 _
 skip
 obtain ⟨g12, hgg⟩ : ∃ g, g = W12.heap.size := ⟨_, rfl⟩
 rw [← hgg] at hg ⊢
 generalize W12.alloc (Obj.cells ([sB].map Value.string).toArray 9) = W13 at hb hg ⊢
 have HB13 := Aside0.mk (below_then HB12.out HB12.out.size hb)
 have HF13 := Aside0.mk (Kd.C_below HF12.out hb)
 have HL13 := Aside0.mk (Kd.C_below HL12.out hb)
 have HY13 := Aside0.mk (Kd.C_below HY12.out hb)
 clear HB12 HF12 HL12 HY12
 have hg12 := hg
 clear hb hgg hg
 iterate 2 (refine OpsK.step rfl rfl rfl ?_; go_simp)
 show OpsK _ _ _ _ _ _ (W13.alloc (Obj.cells ([sC].map Value.string).toArray 9)) _
 have hb : Below W13.heap.size W13 (W13.alloc (Obj.cells ([sC].map Value.string).toArray 9)) := (Below.refl _ _).alloc (Nat.le_refl _) _
 have hg : (W13.alloc (Obj.cells ([sC].map Value.string).toArray 9)).heap[W13.heap.size]? = some (Obj.cells ([sC].map Value.string).toArray 9) := World.alloc_heap_new W13 _
 skip
 obtain ⟨g13, hgg⟩ : ∃ g, g = W13.heap.size := ⟨_, rfl⟩
 rw [← hgg] at hg ⊢
 generalize W13.alloc (Obj.cells ([sC].map Value.string).toArray 9) = W14 at hb hg ⊢
 have HB14 := Aside0.mk (below_then HB13.out HB13.out.size hb)
 have HF14 := Aside0.mk (Kd.C_below HF13.out hb)
 have HL14 := Aside0.mk (Kd.C_below HL13.out hb)
 have HY14 := Aside0.mk (Kd.C_below HY13.out hb)
 clear HB13 HF13 HL13 HY13
 have hgk := (hb.block g12 (Array.getElem?_eq_some_iff.1 hg12).1).trans hg12
 have hg13 := hg
 clear hb hgg hg
 iterate 2 (refine OpsK.step rfl rfl rfl ?_; go_simp)
 show OpsK _ _ _ _ _ _ (W14.alloc (Obj.cells (E.cl ⟨sA, 0, 0, [], [sB], sC⟩ (.slice none 0 0) (.slice (some ⟨g12, 0, none⟩) 1 1) ++ E.cl ⟨sB, 0, 0, [], [sC], sB⟩ (.slice none 0 0) (.slice (some ⟨g13, 0, none⟩) 1 1)).toArray 25)) _
 have hb : Below W14.heap.size W14 (W14.alloc (Obj.cells (E.cl ⟨sA, 0, 0, [], [sB], sC⟩ (.slice none 0 0) (.slice (some ⟨g12, 0, none⟩) 1 1) ++ E.cl ⟨sB, 0, 0, [], [sC], sB⟩ (.slice none 0 0) (.slice (some ⟨g13, 0, none⟩) 1 1)).toArray 25)) := (Below.refl _ _).alloc (Nat.le_refl _) _
 have hg : (W14.alloc (Obj.cells (E.cl ⟨sA, 0, 0, [], [sB], sC⟩ (.slice none 0 0) (.slice (some ⟨g12, 0, none⟩) 1 1) ++ E.cl ⟨sB, 0, 0, [], [sC], sB⟩ (.slice none 0 0) (.slice (some ⟨g13, 0, none⟩) 1 1)).toArray 25)).heap[W14.heap.size]? = some (Obj.cells (E.cl ⟨sA, 0, 0, [], [sB], sC⟩ (.slice none 0 0) (.slice (some ⟨g12, 0, none⟩) 1 1) ++ E.cl ⟨sB, 0, 0, [], [sC], sB⟩ (.slice none 0 0) (.slice (some ⟨g13, 0, none⟩) 1 1)).toArray 25) := World.alloc_heap_new W14 _
 skip
 obtain ⟨g14, hgg⟩ : ∃ g, g = W14.heap.size := ⟨_, rfl⟩
 rw [← hgg] at hg ⊢
 generalize W14.alloc (Obj.cells (E.cl ⟨sA, 0, 0, [], [sB], sC⟩ (.slice none 0 0) (.slice (some ⟨g12, 0, none⟩) 1 1) ++ E.cl ⟨sB, 0, 0, [], [sC], sB⟩ (.slice none 0 0) (.slice (some ⟨g13, 0, none⟩) 1 1)).toArray 25) = W15 at hb hg ⊢
 have HB15 := Aside0.mk (below_then HB14.out HB14.out.size hb)
 have HF15 := Aside0.mk (Kd.C_below HF14.out hb)
 have HL15 := Aside0.mk (Kd.C_below HL14.out hb)
 have HY15 := Aside0.mk (Kd.C_below HY14.out hb)
 clear HB14 HF14 HL14 HY14
 have h1 := (hb.block g12 (Array.getElem?_eq_some_iff.1 hgk).1).trans hgk
 have h2 := (hb.block g13 (Array.getElem?_eq_some_iff.1 hg13).1).trans hg13
 have HBK := Aside0.mk (two_C W15 g14 _ _ _ _ _ _ _ _ _ _ hg (nil_C _) (Nat.le_refl _) (str_C _ g12 [sB] h1 (by decide)) (by decide) (nil_C _) (Nat.le_refl _) (str_C _ g13 [sC] h2 (by decide)) (by decide))
 clear hb hgg hg h1 h2 hgk hg12 hg13
 refine OpsK.step rfl rfl rfl ?_
 go_simp
 refine (protest_Check.calls (some ⟨g14, 0, none⟩) 2 book1 _ _ W15 HBK.out (by decide) (show protest_Check.f book1 = some (-1, 9) from by unfold protest_Check.f; rw [chk0]; rfl)).mono ?_
 rintro e W16 ⟨rfl, hb⟩
 have HB16 := Aside0.mk (below_then HB15.out HB15.out.size hb)
 have HF16 := Aside0.mk (Kd.C_below HF15.out hb)
 have HL16 := Aside0.mk (Kd.C_below HL15.out hb)
 have HY16 := Aside0.mk (Kd.C_below HY15.out hb)
 clear HB15 HF15 HL15 HY15
 clear hb
 dsimp only
 iterate 5 (refine OpsK.step rfl rfl rfl ?_; go_simp)
 refine OpsK.nil (hK _ _ fun a' hf' => ?_)
 clear hK K HF
 have HF : Fr 107 [] [(1, .slice (some ⟨fb, 0, none⟩) 2 2), (2, .slice Al 4 cl), (3, .int .i64 0), (4, .slice Aw 2 cw), (5, .int .i64 0), (7, .int .i64 7), (8, .bool false), (9, .int .i64 0), (10, .int .i64 0), (11, .string { data := #[103, 117, 97, 114, 100, 58, 32, 102, 111, 117, 108, 32, 105, 102, 32, 101, 97, 114, 108, 121, 44, 32, 103, 117, 97, 114, 100, 45, 103, 111, 110, 101, 32, 117, 110, 108, 101, 115, 115, 32, 111, 119, 110, 45, 103, 117, 97, 114, 100, 10] }), (12, .int .i64 0), (13, .int .i64 (-1)), (14, .int .i64 9)] a' := hf'.sub ⟨rfl, rfl, rfl, rfl, rfl, rfl, rfl, rfl, rfl, rfl, rfl, rfl, rfl, trivial⟩
 clear hf'
 refine wpIn_seq ?_
 refine wpIn_region_k (fun _ => trivial) rfl wideC HF fun K hK => ?_
 iterate 2 (refine OpsK.step rfl rfl rfl ?_; go_simp)
 show OpsK _ _ _ _ _ _ (W16.alloc (Obj.cells ([sEarly, sFirst, sFoul, sGone].map Value.string).toArray 9)) _
 have hb : Below W16.heap.size W16 (W16.alloc (Obj.cells ([sEarly, sFirst, sFoul, sGone].map Value.string).toArray 9)) := (Below.refl _ _).alloc (Nat.le_refl _) _
 have hg : (W16.alloc (Obj.cells ([sEarly, sFirst, sFoul, sGone].map Value.string).toArray 9)).heap[W16.heap.size]? = some (Obj.cells ([sEarly, sFirst, sFoul, sGone].map Value.string).toArray 9) := World.alloc_heap_new W16 _
 skip
 obtain ⟨g16, hgg⟩ : ∃ g, g = W16.heap.size := ⟨_, rfl⟩
 rw [← hgg] at hg ⊢
 generalize W16.alloc (Obj.cells ([sEarly, sFirst, sFoul, sGone].map Value.string).toArray 9) = W17 at hb hg ⊢
 have HB17 := Aside0.mk (below_then HB16.out HB16.out.size hb)
 have HF17 := Aside0.mk (Kd.C_below HF16.out hb)
 have HL17 := Aside0.mk (Kd.C_below HL16.out hb)
 have HY17 := Aside0.mk (Kd.C_below HY16.out hb)
 clear HB16 HF16 HL16 HY16
 have HLT := Aside0.mk (str_C W17 g16 [sEarly, sFirst, sFoul, sGone] hg (by decide))
 clear hb hgg hg
 refine OpsK.step rfl rfl rfl ?_
 go_simp
 refine (besomref09_Same.calls 10 Al cl [sEarly, sFirst, sFoul, sGone] (some ⟨g16, 0, none⟩) 4 [sEarly, sFirst, sFoul, sGone] true W17 HL17.out HLC.out HLT.out (by decide) same0).mono ?_
 rintro e W18 ⟨rfl, hd⟩
 have hb := drawn_below hd
 have HB18 := Aside0.mk (below_then HB17.out HB17.out.size hb)
 have HF18 := Aside0.mk (Kd.C_below HF17.out hb)
 have HL18 := Aside0.mk (Kd.C_below HL17.out hb)
 have HY18 := Aside0.mk (Kd.C_below HY17.out hb)
 clear HB17 HF17 HL17 HY17
 clear hb hd
 dsimp only
 iterate 7 (refine OpsK.step rfl rfl rfl ?_; go_simp)
 show OpsK _ _ _ _ _ _ (W18.alloc (Obj.cells (([0, 1] : List Int).map (Value.int .i64)).toArray 3)) _
 have hb : Below W18.heap.size W18 (W18.alloc (Obj.cells (([0, 1] : List Int).map (Value.int .i64)).toArray 3)) := (Below.refl _ _).alloc (Nat.le_refl _) _
 have hg : (W18.alloc (Obj.cells (([0, 1] : List Int).map (Value.int .i64)).toArray 3)).heap[W18.heap.size]? = some (Obj.cells (([0, 1] : List Int).map (Value.int .i64)).toArray 3) := World.alloc_heap_new W18 _
 skip
 obtain ⟨g18, hgg⟩ : ∃ g, g = W18.heap.size := ⟨_, rfl⟩
 rw [← hgg] at hg ⊢
 generalize W18.alloc (Obj.cells (([0, 1] : List Int).map (Value.int .i64)).toArray 3) = W19 at hb hg ⊢
 have HB19 := Aside0.mk (below_then HB18.out HB18.out.size hb)
 have HF19 := Aside0.mk (Kd.C_below HF18.out hb)
 have HL19 := Aside0.mk (Kd.C_below HL18.out hb)
 have HY19 := Aside0.mk (Kd.C_below HY18.out hb)
 clear HB18 HF18 HL18 HY18
 have HIT := Aside0.mk (int_C W19 g18 [0, 1] hg (by decide))
 clear hb hgg hg
 refine OpsK.step rfl rfl rfl ?_
 go_simp
 refine (besomref02_Ints.calls 10 Aw cw [0, 1] (some ⟨g18, 0, none⟩) 2 [0, 1] true W19 HY19.out HYC.out HIT.out (by decide) ints0).mono ?_
 rintro e W20 ⟨rfl, hd⟩
 have hb := drawn_below hd
 have HB20 := Aside0.mk (below_then HB19.out HB19.out.size hb)
 have HF20 := Aside0.mk (Kd.C_below HF19.out hb)
 have HL20 := Aside0.mk (Kd.C_below HL19.out hb)
 have HY20 := Aside0.mk (Kd.C_below HY19.out hb)
 clear HB19 HF19 HL19 HY19
 clear hb hd
 dsimp only
 iterate 10 (refine OpsK.step rfl rfl rfl ?_; go_simp)
 refine OpsK.nil (hK _ _ fun a' hf' => ?_)
 clear hK K HF
 have HF : Fr 107 [] [(8, .bool false), (9, .int .i64 0), (10, .int .i64 0), (11, .string { data := #[103, 117, 97, 114, 100, 58, 32, 102, 111, 117, 108, 32, 105, 102, 32, 101, 97, 114, 108, 121, 44, 32, 103, 117, 97, 114, 100, 45, 103, 111, 110, 101, 32, 117, 110, 108, 101, 115, 115, 32, 111, 119, 110, 45, 103, 117, 97, 114, 100, 10] }), (12, .int .i64 0), (13, .int .i64 (-1)), (14, .int .i64 9), (15, .bool true)] a' := hf'.sub ⟨rfl, rfl, rfl, rfl, rfl, rfl, rfl, rfl, trivial⟩
 clear hf'
 refine wpIn_seq ?_
 refine wpIn_region_k (fun _ => trivial) rfl wideC HF fun K hK => ?_
 iterate 30 (refine OpsK.step rfl rfl rfl ?_; go_simp)
 refine OpsK.nil (hK _ _ fun a' hf' => ?_)
 clear hK K HF
 have HF : Fr 107 [] [(0, .bool true)] a' := hf'.sub ⟨rfl, trivial⟩
 clear hf'
 exact wpIn_ret (HF.ret1 rfl rfl ⟨rfl, HB20.out⟩)
theorem besomlaw09_awake.calls (r : Bool) (w : World) (h : besomlaw09_awake.f = some r) : Calls Tryz.prog 11 #[] w fun e w' => e = .returned (.bool r) ∧ Below w.heap.size w w' := by
 cases h
 exact awake_true w
end
end Go.Proofs.YtlhkeohcickiaaaGreatDoor.E

