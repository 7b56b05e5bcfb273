/- LawProtestHolds, part 25 of 39: my texts (walks of the program over sparse frames, plain laws, and texts that print.py printed for this seat), without what the statement does not reach. -/
import Derived.Test.YtlhkeohcickiaaaGreatDoorKH24
import Derived.Sort.LoopGhostIn
set_option linter.all false
namespace Go.Proofs.YtlhkeohcickiaaaGreatDoor.E
open Go.RowKit Go.Proofs.YtlhkeohcickiaaaGreatDoor.H Go.Proofs.YtlhkeohcickiaaaGreatDoorW.PrintWords Go.Proofs.YtlhkeohcickiaaaGreatDoorW.PrintLast Go.Proofs.YtlhkeohcickiaaaGreatDoorW.PrintMore
section
open Prot (heldOf roundL roundP addL addOne mkLevel mkLevels at_ firesB Good Fits)
attribute [local go_sem] slk sget sput uponK_value uponK_skip uponK_enter
attribute [local go_sem] SteadyRes_value SteadyRes_skip
structure Keeps2 (s1 s2 : Nat) (W w' : World) : Prop where
 os : w'.os = W.os
 tape : w'.tape = W.tape
 output : w'.output = W.output
 size : W.heap.size ≤ w'.heap.size
 block : ∀ k, k < W.heap.size → k ≠ s1 → k ≠ s2 → w'.heap[k]? = W.heap[k]?
def Answered2 {α : Type} (s1 s2 : Nat) (T1 T2 : TypeId) (n1 n2 : Value) (ans : Except (Int × Int) α) (R : World → World → Value → Value → α → Prop) (W : World) (e : Ending) (w' : World) : Prop :=
 Keeps2 s1 s2 W w' ∧ match ans with
  | .error (x, y) => e = .returned (.tuple #[.int .i64 x, .int .i64 y]) ∧ w'.heap[s1]? = some (.cells #[n1] T1 (0, 0)) ∧ w'.heap[s2]? = some (.cells #[n2] T2 (0, 0))
  | .ok a => e = .returned (.tuple #[.int .i64 (-1), .int .i64 0]) ∧ ∃ w1 v1 v2, W.heap.size ≤ w1.heap.size ∧ w'.heap[s1]? = some (.cells #[v1] T1 (0, 0)) ∧ w'.heap[s2]? = some (.cells #[v2] T2 (0, 0)) ∧ R w1 w' v1 v2 a
theorem answered_q2 {α : Type} (g : Nat) (cap : Array Value) (s1 s2 : Nat) (T1 T2 : TypeId) (n1 n2 : Value) (ans : Except (Int × Int) α) (R : World → World → Value → Value → α → Prop) (W : World) (hne : s1 ≠ s2)
  (eg : ∀ args w, (callFunc g args).run Tryz.prog w = .ok (.enter g args) w) (hs1 : W.heap[s1]? = some (.cells #[n1] T1 (0, 0))) (hs2 : W.heap[s2]? = some (.cells #[n2] T2 (0, 0)))
  (hR : ∀ w1 w2 w' v1 v2 a, R w1 w2 v1 v2 a → (∀ k, w1.heap.size ≤ k → k < w2.heap.size → w'.heap[k]? = w2.heap[k]?) → R w1 w' v1 v2 a)
  (hq : ∀ w1, Below W.heap.size W w1 → Calls Tryz.prog g cap w1 (QPost2 w1 s1 s2 ans (R w1))) :
  Calls Tryz.prog 37 #[.func (.func g) #[] cap] W (Answered2 s1 s2 T1 T2 n1 n2 ans R W) := by
 have hl1 := (Array.getElem?_eq_some_iff.1 hs1).1
 have hl2 := (Array.getElem?_eq_some_iff.1 hs2).1
 refine (answered_calls g cap W (fun o w2 => ∃ w1 u2, Below W.heap.size W w1 ∧ W.heap.size + 2 ≤ w1.heap.size ∧ Below w1.heap.size w1 u2 ∧ match ans with
   | .error p => o = some p ∧ w2 = u2
   | .ok a => o = none ∧ ∃ v1 v2, R w1 u2 v1 v2 a ∧ w2 = (u2.setCell ⟨s1, 0, none⟩ v1).setCell ⟨s2, 0, none⟩ v2) eg fun w1 h1 hsz => ?_).mono ?_
 ·refine (hq w1 h1).mono ?_
  rintro e w2 ⟨u2, hb, he⟩
  cases ans with
  | error p =>
   obtain ⟨rfl, rfl⟩ := he
   exact ⟨some p, rfl, hb.block _ (by omega), hb.block _ (by omega), w1, w2, h1, hsz, hb, rfl, rfl⟩
  | ok a =>
   obtain ⟨v1, v2, hr, rfl, rfl⟩ := he
   refine ⟨none, rfl, ?_, ?_, w1, u2, h1, hsz, hb, rfl, v1, v2, hr, rfl⟩
   ·rw [Below.heap_setCell _ _ _ _ (by show W.heap.size ≠ s2; omega), Below.heap_setCell _ _ _ _ (by show W.heap.size ≠ s1; omega)]; exact hb.block _ (by omega)
   ·rw [Below.heap_setCell _ _ _ _ (by show W.heap.size + 1 ≠ s2; omega), Below.heap_setCell _ _ _ _ (by show W.heap.size + 1 ≠ s1; omega)]; exact hb.block _ (by omega)
 ·rintro e w' ⟨o, w2, ⟨w1, u2, h1, hsz, hb, he⟩, hS, rfl⟩
  have hbs := hb.size
  have hbl : ∀ k, k < W.heap.size → u2.heap[k]? = W.heap[k]? := fun k hk => (hb.block k (by omega)).trans (h1.block k hk)
  cases ans with
  | error p =>
   obtain ⟨rfl, rfl⟩ := he
   refine ⟨⟨hS.os.trans (hb.os.trans h1.os), hS.tape.trans (hb.tape.trans h1.tape), hS.output.trans (hb.output.trans h1.output), by have := hS.size; omega, fun k hk _ _ => (hS.block k (by omega) (by omega) (by omega)).trans (hbl k hk)⟩, rfl, ?_, ?_⟩
   ·exact ((hS.block s1 (by omega) (by omega) (by omega)).trans (hbl s1 hl1)).trans hs1
   ·exact ((hS.block s2 (by omega) (by omega) (by omega)).trans (hbl s2 hl2)).trans hs2
  | ok a =>
   obtain ⟨rfl, v1, v2, hr, rfl⟩ := he
   have hss : ((u2.setCell ⟨s1, 0, none⟩ v1).setCell ⟨s2, 0, none⟩ v2).heap.size = u2.heap.size := (size_setCell _ _ _).trans (size_setCell _ _ _)
   have e1 : ((u2.setCell ⟨s1, 0, none⟩ v1).setCell ⟨s2, 0, none⟩ v2).heap[s1]? = some (.cells #[v1] T1 (0, 0)) := by
    rw [Below.heap_setCell _ _ _ _ (by show s1 ≠ s2; exact hne)]
    exact one_setCell ((hbl s1 hl1).trans hs1)
   have e2 : ((u2.setCell ⟨s1, 0, none⟩ v1).setCell ⟨s2, 0, none⟩ v2).heap[s2]? = some (.cells #[v2] T2 (0, 0)) :=
    one_setCell ((Below.heap_setCell _ _ _ _ (by show s2 ≠ s1; exact hne.symm)).trans ((hbl s2 hl2).trans hs2))
   refine ⟨⟨hS.os.trans (hb.os.trans h1.os), hS.tape.trans (hb.tape.trans h1.tape), hS.output.trans (hb.output.trans h1.output), by have := hS.size; omega, fun k hk n1 n2 => ?_⟩, rfl, w1, v1, v2, by omega, ?_, ?_, ?_⟩
   ·rw [hS.block k (by omega) (by omega) (by omega), Below.heap_setCell _ _ _ _ n2, Below.heap_setCell _ _ _ _ n1]; exact hbl k hk
   ·rw [hS.block s1 (by omega) (by omega) (by omega)]; exact e1
   ·rw [hS.block s2 (by omega) (by omega) (by omega)]; exact e2
   ·refine hR w1 u2 w' v1 v2 a hr fun k hk hk2 => ?_
    rw [hS.block k (by omega) (by omega) (by omega), Below.heap_setCell _ _ _ _ (by show k ≠ s2; omega), Below.heap_setCell _ _ _ _ (by show k ≠ s1; omega)]
theorem Keeps2.below {s1 s2 : Nat} {w W w' : World} (k : Keeps2 s1 s2 W w') (hb : Below w.heap.size w W) (h1 : w.heap.size ≤ s1) (h2 : w.heap.size ≤ s2) : Below w.heap.size w w' :=
 ⟨k.os.trans hb.os, k.tape.trans hb.tape, k.output.trans hb.output, Nat.le_trans hb.size k.size, fun j hj => (k.block j (Nat.lt_of_lt_of_le hj hb.size) (by omega) (by omega)).trans (hb.block j hj)⟩
theorem results_cct {P : Program} {fn : Func} {c d t : Nat} {ty tz : TypeId} {l : Slots} {a : Act} {N : Nat} {ds : List Deferred} {w : World} {p q : Addr} {v u x : Value} (hf : Fr N ds l a) (h : fn.results = #[.cell c ty, .cell d tz, .tmp t]) (hc : sget l c = some (.pointer (some p))) (hd : sget l d = some (.pointer (some q))) (ht : sget l t = some x)
  (ha : ∀ w, (isAgg ty).run P w = .ok false w) (hz : ∀ w, (isAgg tz).run P w = .ok false w) (hl : w.cell? p = some v) (hm : w.cell? q = some u) : (results fn a.tmps).run P w = .ok (.tuple #[v, u, x]) w := by
 have h1 := hf.know c _ hc
 have h2 := hf.know t _ ht
 have h3 := hf.know d _ hd
 simp [results, h, h1, h2, h3, ha, hz, hl, hm, go_sem]
structure Still (w W : World) : Prop where
 os : W.os = w.os
 tape : W.tape = w.tape
 output : W.output = w.output
 heap : W.heap = w.heap
theorem Still.store {w W : World} {b : Nat} {v : Value} {T : TypeId} (h : Still w W) (g : w.heap[b]? = some (.cells #[v] T (0, 0))) : Still w (W.setCell ⟨b, 0, none⟩ v) :=
 ⟨h.os, h.tape, h.output, by
  apply Array.ext_getElem?
  intro k
  by_cases hk : k = b
  ·subst hk
   exact (one_setCell (v := v) (h.heap ▸ g)).trans g.symm
  ·exact (Below.heap_setCell _ _ _ _ hk).trans (by rw [h.heap])⟩
theorem Still.below {w W : World} {u : World} (h : Still w W) (hb : Below u.heap.size u w) : Below u.heap.size u W :=
 ⟨h.os.trans hb.os, h.tape.trans hb.tape, h.output.trans hb.output, by rw [h.heap]; exact hb.size, fun k hk => by rw [h.heap]; exact hb.block k hk⟩
theorem move_two : ∀ (w1 w2 w' : World) (v1 v2 : Value) (a : List ByteArray × List ByteArray), (Kd.R Kd.string 9 w2 w1.heap.size (fun k => some k ≠ v2.ownBlock) v1 a.1 ∧ Kd.R Kd.string 9 w2 w1.heap.size (fun k => some k ≠ v1.ownBlock) v2 a.2) → (∀ k, w1.heap.size ≤ k → k < w2.heap.size → w'.heap[k]? = w2.heap[k]?) → (Kd.R Kd.string 9 w' w1.heap.size (fun k => some k ≠ v2.ownBlock) v1 a.1 ∧ Kd.R Kd.string 9 w' w1.heap.size (fun k => some k ≠ v1.ownBlock) v2 a.2) :=
 fun w1 w2 w' v1 v2 a h hm => ⟨Kd.R_mono (Kd.R_move (Kd.R_bound h.1) fun k hk => hm k hk.2.1 hk.2.2.1) fun _ hk => hk.1, Kd.R_mono (Kd.R_move (Kd.R_bound h.2) fun k hk => hm k hk.2.1 hk.2.2.1) fun _ hk => hk.1⟩
def protest_Changed.f (l0 : List S25) (a1 a2 : Int) (l3 : List ByteArray) : Option (List ByteArray × List ByteArray × Int) := some (match changedOf l0 a1 a2 l3 with | .error p => ([], [], p.2) | .ok r => (r.1, r.2, 0))
set_option maxRecDepth 100000 in
set_option maxHeartbeats 2000000 in
theorem protest_Changed.calls (A0 : Option Addr) (c0 : Nat) (l0 : List S25) (a1 a2 : Int) (A3 : Option Addr) (c3 : Nat) (l3 : List ByteArray) (r1 r2 : List ByteArray) (r3 : Int) (w : World) (hr0 : Kd.C k25 w A0 l0.length l0) (hc0 : l0.length ≤ c0) (hr3 : Kd.C Kd.string w A3 l3.length l3) (hc3 : l3.length ≤ c3) (h : protest_Changed.f l0 a1 a2 l3 = some (r1, r2, r3)) :
  Calls Tryz.prog 22 #[.slice A0 l0.length c0, .int .i64 a1, .int .i64 a2, .slice A3 l3.length c3] w fun e w' => ∃ v0_ v1_, e = .returned (.tuple #[v0_, v1_, .int .i64 r3]) ∧ Kd.R Kd.string 9 w' w.heap.size (fun k_ => some k_ ≠ v1_.ownBlock) v0_ r1 ∧ Kd.R Kd.string 9 w' w.heap.size (fun k_ => some k_ ≠ v0_.ownBlock) v1_ r2 ∧ Below w.heap.size w w' := by
 have hmf : ∀ (fn : Fn) (first cap : Array Value) (w : World), (Instr.makeFunc fn first cap).run Tryz.prog w = .ok (.func fn first cap) w := fun _ _ _ _ => rfl
 have HHhr0 := Aside0.mk hr0
 have HHhr3 := Aside0.mk hr3
 have HDEF := Aside0.mk h
 clear h hr0 hr3
 refine callsK (args := [.slice A0 l0.length c0, .int .i64 a1, .int .i64 a2, .slice A3 l3.length c3]) Tryz.func22 rfl Tryz.ntmps22 (by simp) fun a HF0 => ?_
 have HF : Fr 19 [] [(0, .slice A0 l0.length c0), (1, .int .i64 a1), (2, .int .i64 a2), (3, .slice A3 l3.length c3)] a := HF0
 clear HF0
 refine wpIn_seq ?_
 refine wpIn_region_k (fun _ => trivial) rfl wideC HF fun K hK => ?_
 iterate 7 (refine OpsK.step rfl rfl rfl ?_; go_simp)
 refine OpsK.nil (hK _ _ fun a' hf' => ?_)
 clear hK K HF
 have HF : Fr 19 [] [(4, .pointer (some ⟨w.heap.size, 0, none⟩)), (5, .pointer (some ⟨w.heap.size + 1, 0, none⟩)), (6, .pointer (some ⟨w.heap.size + 1 + 1, 0, none⟩)), (7, .pointer (some ⟨w.heap.size + 1 + 1 + 1, 0, none⟩)), (8, .pointer (some ⟨w.heap.size + 1 + 1 + 1 + 1, 0, none⟩)), (9, .pointer (some ⟨w.heap.size + 1 + 1 + 1 + 1 + 1, 0, none⟩))] a' := hf'.sub ⟨rfl, rfl, rfl, rfl, rfl, rfl, trivial⟩
 clear hf'
 have hL := ((((((Laid.nil w).snoc (.cells #[.slice A0 l0.length c0] 22)).snoc (.cells #[.int .i64 a1] 3)).snoc (.cells #[.int .i64 a2] 3)).snoc (.cells #[.slice A3 l3.length c3] 23)).snoc (.cells #[.slice none 0 0] 23)).snoc (.cells #[.slice none 0 0] 23)
 generalize ((((((w.alloc (.cells #[.slice A0 l0.length c0] 22)).alloc (.cells #[.int .i64 a1] 3)).alloc (.cells #[.int .i64 a2] 3)).alloc (.cells #[.slice A3 l3.length c3] 23)).alloc (.cells #[.slice none 0 0] 23)).alloc (.cells #[.slice none 0 0] 23)) = W at hL ⊢
 have hsz : W.heap.size = w.heap.size + 6 := hL.size
 have hb0 := hL.below
 have g0 : W.heap[w.heap.size]? = _ := hL.heap (i := 0) rfl
 have g1 : W.heap[w.heap.size + 1]? = _ := hL.heap (i := 1) rfl
 have g2 : W.heap[w.heap.size + 1 + 1]? = _ := hL.heap (i := 2) rfl
 have g3 : W.heap[w.heap.size + 1 + 1 + 1]? = _ := hL.heap (i := 3) rfl
 have g4 : W.heap[w.heap.size + 1 + 1 + 1 + 1]? = _ := hL.heap (i := 4) rfl
 have g5 : W.heap[w.heap.size + 1 + 1 + 1 + 1 + 1]? = _ := hL.heap (i := 5) rfl
 have HC : Aside0 (Calls Tryz.prog 37 #[.func (.func 58) #[] #[.pointer (some ⟨w.heap.size, 0, none⟩), .pointer (some ⟨w.heap.size + 1, 0, none⟩), .pointer (some ⟨w.heap.size + 1 + 1 + 1, 0, none⟩), .pointer (some ⟨w.heap.size + 1 + 1, 0, none⟩), .pointer (some ⟨w.heap.size + 1 + 1 + 1 + 1, 0, none⟩), .pointer (some ⟨w.heap.size + 1 + 1 + 1 + 1 + 1, 0, none⟩)]] W (Answered2 (w.heap.size + 1 + 1 + 1 + 1) (w.heap.size + 1 + 1 + 1 + 1 + 1) 23 23 (.slice none 0 0) (.slice none 0 0) (changedOf l0 a1 a2 l3) (fun w1 w2 v1 v2 r => Kd.R Kd.string 9 w2 w1.heap.size (fun k => some k ≠ v2.ownBlock) v1 r.1 ∧ Kd.R Kd.string 9 w2 w1.heap.size (fun k => some k ≠ v1.ownBlock) v2 r.2) W)) := ⟨answered_q2 58 _ _ _ _ _ _ _ _ _ W (by omega) enters58 g4 g5 (move_two) fun w1 h1 => by
  have k0 := (h1.block (w.heap.size) (by omega)).trans g0
  have k1 := (h1.block (w.heap.size + 1) (by omega)).trans g1
  have k2 := (h1.block (w.heap.size + 1 + 1) (by omega)).trans g2
  have k3 := (h1.block (w.heap.size + 1 + 1 + 1) (by omega)).trans g3
  have k4 := (h1.block (w.heap.size + 1 + 1 + 1 + 1) (by omega)).trans g4
  have k5 := (h1.block (w.heap.size + 1 + 1 + 1 + 1 + 1) (by omega)).trans g5
  have hbw : Below w.heap.size w w1 := below_then hb0 hb0.size h1
  exact changed_question _ _ _ _ _ _ A0 c0 l0 a1 a2 A3 c3 l3 _ _ w1 k0 k1 k3 k2 k4 k5 (by omega) (Kd.C_below HHhr0.out hbw) hc0 (Kd.C_below HHhr3.out hbw) hc3⟩
 have HB0 := Aside0.mk hb0
 clear hL hb0 g0 g1 g2 g3 g4 g5
 refine wpIn_seq ?_
 refine wpIn_region_k (fun _ => trivial) rfl wideC HF fun K hK => ?_
 iterate 2 (refine OpsK.step rfl rfl rfl ?_; go_simp)
 refine HC.out.mono ?_
 rintro e w2 ⟨hkp, hp⟩
 have hb2 : Below w.heap.size w w2 := hkp.below HB0.out (by omega) (by omega)
 have hz2 : W.heap.size ≤ w2.heap.size := hkp.size
 cases ha : changedOf l0 a1 a2 l3 with
 | error p =>
  obtain ⟨x, y⟩ := p
  rw [ha] at hp
  obtain ⟨rfl, g1, g2⟩ := hp
  have HG1 := Aside0.mk g1
  have HG2 := Aside0.mk g2
  have HB2 := Aside0.mk hb2
  have HA := Aside0.mk ha
  have HKP := Aside0.mk hkp
  clear g1 g2 ha hb2 hkp
  dsimp only
  iterate 4 (refine OpsK.step rfl rfl rfl ?_; go_simp)
  refine OpsK.nil (hK _ _ fun a' hf' => ?_)
  clear hK K HF
  have HF : Fr 19 [] [(8, .pointer (some ⟨w.heap.size + 1 + 1 + 1 + 1, 0, none⟩)), (9, .pointer (some ⟨w.heap.size + 1 + 1 + 1 + 1 + 1, 0, none⟩)), (10, .int .i64 y)] a' := hf'.sub ⟨rfl, rfl, rfl, trivial⟩
  clear hf'
  refine wpIn_seq ?_
  refine wpIn_region_S (by kernel_rfl) HF (fun W => Still w2 W) (⟨rfl, rfl, rfl, rfl⟩) (by kernel_rfl) fun K hK => ?_
  apply ChainC.val
  ·rfl
  ·rfl
  ·rfl
  ·intro W hW
   have hg := (show W.heap[w.heap.size + 1 + 1 + 1 + 1]? = _ from hW.heap ▸ HG1.out)
   have q1 := cell_of hg
   have q2 := frozen_of hg
   clear hg
   have HW := Aside0.mk hW
   clear hW
   go_simp
   exact ⟨rfl, HW.out⟩
  apply ChainC.val
  ·rfl
  ·rfl
  ·rfl
  ·intro W hW
   have hg := (show W.heap[w.heap.size + 1 + 1 + 1 + 1 + 1]? = _ from hW.heap ▸ HG2.out)
   have q1 := cell_of hg
   have q2 := frozen_of hg
   clear hg
   have HW := Aside0.mk hW
   clear hW
   go_simp
   exact ⟨rfl, HW.out⟩
  apply ChainC.val
  ·rfl
  ·rfl
  ·rfl
  ·intro W hW
   have HW := Aside0.mk hW
   clear hW
   go_simp
   exact ⟨rfl, HW.out⟩
  apply ChainC.val
  ·rfl
  ·rfl
  ·rfl
  ·intro W hW
   have hg := (show W.heap[w.heap.size + 1 + 1 + 1 + 1]? = _ from hW.heap ▸ HG1.out)
   have q1 := cell_of hg
   have q2 := frozen_of hg
   clear hg
   have HW := Aside0.mk hW
   clear hW
   go_simp
   exact ⟨rfl, HW.out.store HG1.out⟩
  apply ChainC.val
  ·rfl
  ·rfl
  ·rfl
  ·intro W hW
   have hg := (show W.heap[w.heap.size + 1 + 1 + 1 + 1 + 1]? = _ from hW.heap ▸ HG2.out)
   have q1 := cell_of hg
   have q2 := frozen_of hg
   clear hg
   have HW := Aside0.mk hW
   clear hW
   go_simp
   exact ⟨rfl, HW.out.store HG2.out⟩
  apply ChainC.val
  ·rfl
  ·rfl
  ·rfl
  ·intro W hW
   have HW := Aside0.mk hW
   clear hW
   go_simp
   exact ⟨rfl, HW.out⟩
  refine ChainC.nil (hK _ fun a9 w3 hf' hS' => ?_)
  clear hK K HF
  have HF : Fr 19 [] [(8, .pointer (some ⟨w.heap.size + 1 + 1 + 1 + 1, 0, none⟩)), (9, .pointer (some ⟨w.heap.size + 1 + 1 + 1 + 1 + 1, 0, none⟩)), (10, .int .i64 y)] a9 := hf'.sub ⟨rfl, rfl, rfl, trivial⟩
  clear hf'
  have HS' := Aside0.mk hS'
  clear hS'
  have e1 := cell_of (show w3.heap[w.heap.size + 1 + 1 + 1 + 1]? = _ from HS'.out.heap ▸ HG1.out)
  have e2 := cell_of (show w3.heap[w.heap.size + 1 + 1 + 1 + 1 + 1]? = _ from HS'.out.heap ▸ HG2.out)
  have HB3 := Aside0.mk (HS'.out.below HB2.out)
  refine wpIn_ret (bodyPost_ret (results_cct HF rfl rfl rfl rfl Tryz.isAgg23 Tryz.isAgg23 e1 e2) HF.defs ?_)
  have hd := HDEF.out
  unfold protest_Changed.f at hd
  rw [HA.out] at hd
  cases hd
  exact ⟨_, _, rfl, Kd.R_nil _ _ _ _ _, Kd.R_nil _ _ _ _ _, HB3.out⟩
 | ok r =>
  obtain ⟨r1', r2'⟩ := r
  rw [ha] at hp
  obtain ⟨rfl, w1, v1, v2, hw1, g1, g2, hr⟩ := hp
  obtain ⟨Av, cv, hv⟩ := Kd.R_slice hr.1
  obtain ⟨Bv, dv, hv'⟩ := Kd.R_slice hr.2
  have HR := Aside0.mk hr
  clear hr
  subst hv hv'
  have HG1 := Aside0.mk g1
  have HG2 := Aside0.mk g2
  have HB2 := Aside0.mk hb2
  have HA := Aside0.mk ha
  have HKP := Aside0.mk hkp
  clear g1 g2 ha hb2 hkp
  dsimp only
  iterate 4 (refine OpsK.step rfl rfl rfl ?_; go_simp)
  refine OpsK.nil (hK _ _ fun a' hf' => ?_)
  clear hK K HF
  have HF : Fr 19 [] [(8, .pointer (some ⟨w.heap.size + 1 + 1 + 1 + 1, 0, none⟩)), (9, .pointer (some ⟨w.heap.size + 1 + 1 + 1 + 1 + 1, 0, none⟩)), (10, .int .i64 0)] a' := hf'.sub ⟨rfl, rfl, rfl, trivial⟩
  clear hf'
  refine wpIn_seq ?_
  refine wpIn_region_S (by kernel_rfl) HF (fun W => Still w2 W) (⟨rfl, rfl, rfl, rfl⟩) (by kernel_rfl) fun K hK => ?_
  apply ChainC.val
  ·rfl
  ·rfl
  ·rfl
  ·intro W hW
   have hg := (show W.heap[w.heap.size + 1 + 1 + 1 + 1]? = _ from hW.heap ▸ HG1.out)
   have q1 := cell_of hg
   have q2 := frozen_of hg
   clear hg
   have HW := Aside0.mk hW
   clear hW
   go_simp
   exact ⟨rfl, HW.out⟩
  apply ChainC.val
  ·rfl
  ·rfl
  ·rfl
  ·intro W hW
   have hg := (show W.heap[w.heap.size + 1 + 1 + 1 + 1 + 1]? = _ from hW.heap ▸ HG2.out)
   have q1 := cell_of hg
   have q2 := frozen_of hg
   clear hg
   have HW := Aside0.mk hW
   clear hW
   go_simp
   exact ⟨rfl, HW.out⟩
  apply ChainC.val
  ·rfl
  ·rfl
  ·rfl
  ·intro W hW
   have HW := Aside0.mk hW
   clear hW
   go_simp
   exact ⟨rfl, HW.out⟩
  apply ChainC.val
  ·rfl
  ·rfl
  ·rfl
  ·intro W hW
   have hg := (show W.heap[w.heap.size + 1 + 1 + 1 + 1]? = _ from hW.heap ▸ HG1.out)
   have q1 := cell_of hg
   have q2 := frozen_of hg
   clear hg
   have HW := Aside0.mk hW
   clear hW
   go_simp
   exact ⟨rfl, HW.out.store HG1.out⟩
  apply ChainC.val
  ·rfl
  ·rfl
  ·rfl
  ·intro W hW
   have hg := (show W.heap[w.heap.size + 1 + 1 + 1 + 1 + 1]? = _ from hW.heap ▸ HG2.out)
   have q1 := cell_of hg
   have q2 := frozen_of hg
   clear hg
   have HW := Aside0.mk hW
   clear hW
   go_simp
   exact ⟨rfl, HW.out.store HG2.out⟩
  apply ChainC.val
  ·rfl
  ·rfl
  ·rfl
  ·intro W hW
   have HW := Aside0.mk hW
   clear hW
   go_simp
   exact ⟨rfl, HW.out⟩
  refine ChainC.nil (hK _ fun a9 w3 hf' hS' => ?_)
  clear hK K HF
  have HF : Fr 19 [] [(8, .pointer (some ⟨w.heap.size + 1 + 1 + 1 + 1, 0, none⟩)), (9, .pointer (some ⟨w.heap.size + 1 + 1 + 1 + 1 + 1, 0, none⟩)), (10, .int .i64 0)] a9 := hf'.sub ⟨rfl, rfl, rfl, trivial⟩
  clear hf'
  have HS' := Aside0.mk hS'
  clear hS'
  have e1 := cell_of (show w3.heap[w.heap.size + 1 + 1 + 1 + 1]? = _ from HS'.out.heap ▸ HG1.out)
  have e2 := cell_of (show w3.heap[w.heap.size + 1 + 1 + 1 + 1 + 1]? = _ from HS'.out.heap ▸ HG2.out)
  have HB3 := Aside0.mk (HS'.out.below HB2.out)
  refine wpIn_ret (bodyPost_ret (results_cct HF rfl rfl rfl rfl Tryz.isAgg23 Tryz.isAgg23 e1 e2) HF.defs ?_)
  have hd := HDEF.out
  unfold protest_Changed.f at hd
  rw [HA.out] at hd
  cases hd
  have hm : ∀ k, w1.heap.size ≤ k → k < w2.heap.size → w3.heap[k]? = w2.heap[k]? := fun k _ _ => by rw [HS'.out.heap]
  have hR := move_two _ _ w3 _ _ _ HR.out hm
  exact ⟨_, _, rfl, Kd.R_lower hR.1 (by omega), Kd.R_lower hR.2 (by omega), HB3.out⟩
def protest_Proves.f (l0 : List S25) (a1 : Int) (l2 : List ByteArray) (l3 : List Int) (a4 : ByteArray) : Option (Bool × Int × Int) := some (match provesOf l0 a1 l2 l3 a4 with | .error p => if p.2 = 0 then (false, 0, 0) else (false, -1, p.2) | .ok r => (r.1, r.2, 0))
set_option maxRecDepth 100000 in
set_option maxHeartbeats 2000000 in
theorem protest_Proves.calls (A0 : Option Addr) (c0 : Nat) (l0 : List S25) (a1 : Int) (A2 : Option Addr) (c2 : Nat) (l2 : List ByteArray) (A3 : Option Addr) (c3 : Nat) (l3 : List Int) (a4 : ByteArray) (r1 : Bool) (r2 r3 : Int) (w : World) (hr0 : Kd.C k25 w A0 l0.length l0) (hc0 : l0.length ≤ c0) (hr2 : Kd.C Kd.string w A2 l2.length l2) (hc2 : l2.length ≤ c2) (hr3 : Kd.C (Kd.int .i64) w A3 l3.length l3) (hc3 : l3.length ≤ c3) (h : protest_Proves.f l0 a1 l2 l3 a4 = some (r1, r2, r3)) :
  Calls Tryz.prog 29 #[.slice A0 l0.length c0, .int .i64 a1, .slice A2 l2.length c2, .slice A3 l3.length c3, .string a4] w fun e w' => e = .returned (.tuple #[.bool r1, .int .i64 r2, .int .i64 r3]) ∧ Below w.heap.size w w' := by
 have hmf : ∀ (fn : Fn) (first cap : Array Value) (w : World), (Instr.makeFunc fn first cap).run Tryz.prog w = .ok (.func fn first cap) w := fun _ _ _ _ => rfl
 have HHhr0 := Aside0.mk hr0
 have HHhr2 := Aside0.mk hr2
 have HHhr3 := Aside0.mk hr3
 have HDEF := Aside0.mk h
 clear h hr0 hr2 hr3
 refine callsK (args := [.slice A0 l0.length c0, .int .i64 a1, .slice A2 l2.length c2, .slice A3 l3.length c3, .string a4]) Tryz.func29 rfl Tryz.ntmps29 (by simp) fun a HF0 => ?_
 have HF : Fr 23 [] [(0, .slice A0 l0.length c0), (1, .int .i64 a1), (2, .slice A2 l2.length c2), (3, .slice A3 l3.length c3), (4, .string a4)] a := HF0
 clear HF0
 refine wpIn_seq ?_
 refine wpIn_region_k (fun _ => trivial) rfl wideC HF fun K hK => ?_
 iterate 8 (refine OpsK.step rfl rfl rfl ?_; go_simp)
 refine OpsK.nil (hK _ _ fun a' hf' => ?_)
 clear hK K HF
 have HF : Fr 23 [] [(5, .pointer (some ⟨w.heap.size, 0, none⟩)), (6, .pointer (some ⟨w.heap.size + 1, 0, none⟩)), (7, .pointer (some ⟨w.heap.size + 1 + 1, 0, none⟩)), (8, .pointer (some ⟨w.heap.size + 1 + 1 + 1, 0, none⟩)), (9, .pointer (some ⟨w.heap.size + 1 + 1 + 1 + 1, 0, none⟩)), (10, .pointer (some ⟨w.heap.size + 1 + 1 + 1 + 1 + 1, 0, none⟩)), (11, .pointer (some ⟨w.heap.size + 1 + 1 + 1 + 1 + 1 + 1, 0, none⟩))] a' := hf'.sub ⟨rfl, rfl, rfl, rfl, rfl, rfl, rfl, trivial⟩
 clear hf'
 have hL := (((((((Laid.nil w).snoc (.cells #[.slice A0 l0.length c0] 22)).snoc (.cells #[.int .i64 a1] 3)).snoc (.cells #[.slice A2 l2.length c2] 23)).snoc (.cells #[.slice A3 l3.length c3] 37)).snoc (.cells #[.string a4] 9)).snoc (.cells #[.bool false] 4)).snoc (.cells #[.int .i64 0] 3)
 generalize (((((((w.alloc (.cells #[.slice A0 l0.length c0] 22)).alloc (.cells #[.int .i64 a1] 3)).alloc (.cells #[.slice A2 l2.length c2] 23)).alloc (.cells #[.slice A3 l3.length c3] 37)).alloc (.cells #[.string a4] 9)).alloc (.cells #[.bool false] 4)).alloc (.cells #[.int .i64 0] 3)) = W at hL ⊢
 have hsz : W.heap.size = w.heap.size + 7 := hL.size
 have hb0 := hL.below
 have g0 : W.heap[w.heap.size]? = _ := hL.heap (i := 0) rfl
 have g1 : W.heap[w.heap.size + 1]? = _ := hL.heap (i := 1) rfl
 have g2 : W.heap[w.heap.size + 1 + 1]? = _ := hL.heap (i := 2) rfl
 have g3 : W.heap[w.heap.size + 1 + 1 + 1]? = _ := hL.heap (i := 3) rfl
 have g4 : W.heap[w.heap.size + 1 + 1 + 1 + 1]? = _ := hL.heap (i := 4) rfl
 have g5 : W.heap[w.heap.size + 1 + 1 + 1 + 1 + 1]? = _ := hL.heap (i := 5) rfl
 have g6 : W.heap[w.heap.size + 1 + 1 + 1 + 1 + 1 + 1]? = _ := hL.heap (i := 6) rfl
 have HC : Aside0 (Calls Tryz.prog 37 #[.func (.func 60) #[] #[.pointer (some ⟨w.heap.size, 0, none⟩), .pointer (some ⟨w.heap.size + 1, 0, none⟩), .pointer (some ⟨w.heap.size + 1 + 1, 0, none⟩), .pointer (some ⟨w.heap.size + 1 + 1 + 1 + 1, 0, none⟩), .pointer (some ⟨w.heap.size + 1 + 1 + 1, 0, none⟩), .pointer (some ⟨w.heap.size + 1 + 1 + 1 + 1 + 1, 0, none⟩), .pointer (some ⟨w.heap.size + 1 + 1 + 1 + 1 + 1 + 1, 0, none⟩)]] W (Answered2 (w.heap.size + 1 + 1 + 1 + 1 + 1) (w.heap.size + 1 + 1 + 1 + 1 + 1 + 1) 4 3 (.bool false) (.int .i64 0) (provesOf l0 a1 l2 l3 a4) (fun _ _ v1 v2 r => v1 = .bool r.1 ∧ v2 = .int .i64 r.2) W)) := ⟨answered_q2 60 _ _ _ _ _ _ _ _ _ W (by omega) enters60 g5 g6 (fun _ _ _ _ _ _ h _ => h) fun w1 h1 => by
  have k0 := (h1.block (w.heap.size) (by omega)).trans g0
  have k1 := (h1.block (w.heap.size + 1) (by omega)).trans g1
  have k2 := (h1.block (w.heap.size + 1 + 1) (by omega)).trans g2
  have k3 := (h1.block (w.heap.size + 1 + 1 + 1) (by omega)).trans g3
  have k4 := (h1.block (w.heap.size + 1 + 1 + 1 + 1) (by omega)).trans g4
  have k5 := (h1.block (w.heap.size + 1 + 1 + 1 + 1 + 1) (by omega)).trans g5
  have k6 := (h1.block (w.heap.size + 1 + 1 + 1 + 1 + 1 + 1) (by omega)).trans g6
  have hbw : Below w.heap.size w w1 := below_then hb0 hb0.size h1
  exact proves_question _ _ _ _ _ _ _ A0 c0 l0 a1 A2 c2 l2 A3 c3 l3 a4 _ _ w1 k0 k1 k2 k4 k3 k5 k6 (by omega) (Kd.C_below HHhr0.out hbw) hc0 (Kd.C_below HHhr2.out hbw) hc2 (Kd.C_below HHhr3.out hbw)⟩
 have HB0 := Aside0.mk hb0
 clear hL hb0 g0 g1 g2 g3 g4 g5 g6
 refine wpIn_seq ?_
 refine wpIn_region_k (fun _ => trivial) rfl wideC HF fun K hK => ?_
 iterate 2 (refine OpsK.step rfl rfl rfl ?_; go_simp)
 refine HC.out.mono ?_
 rintro e w2 ⟨hkp, hp⟩
 have hb2 : Below w.heap.size w w2 := hkp.below HB0.out (by omega) (by omega)
 have hz2 : W.heap.size ≤ w2.heap.size := hkp.size
 cases ha : provesOf l0 a1 l2 l3 a4 with
 | error p =>
  obtain ⟨x, y⟩ := p
  rw [ha] at hp
  obtain ⟨rfl, g1, g2⟩ := hp
  have HG1 := Aside0.mk g1
  have HG2 := Aside0.mk g2
  have HB2 := Aside0.mk hb2
  have HA := Aside0.mk ha
  have HKP := Aside0.mk hkp
  clear g1 g2 ha hb2 hkp
  dsimp only
  iterate 4 (refine OpsK.step rfl rfl rfl ?_; go_simp)
  refine OpsK.nil (hK _ _ fun a' hf' => ?_)
  clear hK K HF
  have HF : Fr 23 [] [(10, .pointer (some ⟨w.heap.size + 1 + 1 + 1 + 1 + 1, 0, none⟩)), (11, .pointer (some ⟨w.heap.size + 1 + 1 + 1 + 1 + 1 + 1, 0, none⟩)), (12, .int .i64 y)] a' := hf'.sub ⟨rfl, rfl, rfl, trivial⟩
  clear hf'
  by_cases hy : y = 0
  ·subst hy
   refine wpIn_seq (wpIn_seq ?_)
   refine wpIn_region_k (fun _ => trivial) rfl wideC HF fun K hK => ?_
   iterate 2 (refine OpsK.step rfl rfl rfl ?_; go_simp)
   refine OpsK.nil (hK _ _ fun a7 hf' => ?_)
   clear hK K HF
   have HF : Fr 23 [] [(10, .pointer (some ⟨w.heap.size + 1 + 1 + 1 + 1 + 1, 0, none⟩)), (11, .pointer (some ⟨w.heap.size + 1 + 1 + 1 + 1 + 1 + 1, 0, none⟩)), (12, .int .i64 0), (19, .bool false)] a7 := hf'.sub ⟨rfl, rfl, rfl, rfl, trivial⟩
   clear hf'
   refine wpIn_cond_false (HF.tmp rfl) (wpIn_skip ?_)
   simp only [Exit.then, Exit.inBlock, ↓reduceIte]
   refine wpIn_seq ?_
   refine wpIn_region_S (by kernel_rfl) HF (fun W => Still w2 W) (⟨rfl, rfl, rfl, rfl⟩) (by kernel_rfl) fun K hK => ?_
   apply ChainC.val
   ·rfl
   ·rfl
   ·rfl
   ·intro W hW
    have hg := (show W.heap[w.heap.size + 1 + 1 + 1 + 1 + 1]? = _ from hW.heap ▸ HG1.out)
    have q1 := cell_of hg
    have q2 := frozen_of hg
    clear hg
    have HW := Aside0.mk hW
    clear hW
    go_simp
    exact ⟨rfl, HW.out⟩
   apply ChainC.val
   ·rfl
   ·rfl
   ·rfl
   ·intro W hW
    have hg := (show W.heap[w.heap.size + 1 + 1 + 1 + 1 + 1 + 1]? = _ from hW.heap ▸ HG2.out)
    have q1 := cell_of hg
    have q2 := frozen_of hg
    clear hg
    have HW := Aside0.mk hW
    clear hW
    go_simp
    exact ⟨rfl, HW.out⟩
   apply ChainC.val
   ·rfl
   ·rfl
   ·rfl
   ·intro W hW
    have hg := (show W.heap[w.heap.size + 1 + 1 + 1 + 1 + 1]? = _ from hW.heap ▸ HG1.out)
    have q1 := cell_of hg
    have q2 := frozen_of hg
    clear hg
    have HW := Aside0.mk hW
    clear hW
    go_simp
    exact ⟨rfl, HW.out.store HG1.out⟩
   apply ChainC.val
   ·rfl
   ·rfl
   ·rfl
   ·intro W hW
    have hg := (show W.heap[w.heap.size + 1 + 1 + 1 + 1 + 1 + 1]? = _ from hW.heap ▸ HG2.out)
    have q1 := cell_of hg
    have q2 := frozen_of hg
    clear hg
    have HW := Aside0.mk hW
    clear hW
    go_simp
    exact ⟨rfl, HW.out.store HG2.out⟩
   apply ChainC.val
   ·rfl
   ·rfl
   ·rfl
   ·intro W hW
    have HW := Aside0.mk hW
    clear hW
    go_simp
    exact ⟨rfl, HW.out⟩
   refine ChainC.nil (hK _ fun a9 w3 hf' hS' => ?_)
   clear hK K HF
   have HF : Fr 23 [] [(10, .pointer (some ⟨w.heap.size + 1 + 1 + 1 + 1 + 1, 0, none⟩)), (11, .pointer (some ⟨w.heap.size + 1 + 1 + 1 + 1 + 1 + 1, 0, none⟩)), (12, .int .i64 0)] a9 := hf'.sub ⟨rfl, rfl, rfl, trivial⟩
   clear hf'
   have HS' := Aside0.mk hS'
   clear hS'
   have e1 := cell_of (show w3.heap[w.heap.size + 1 + 1 + 1 + 1 + 1]? = _ from HS'.out.heap ▸ HG1.out)
   have e2 := cell_of (show w3.heap[w.heap.size + 1 + 1 + 1 + 1 + 1 + 1]? = _ from HS'.out.heap ▸ HG2.out)
   have HB3 := Aside0.mk (HS'.out.below HB2.out)
   refine wpIn_ret (bodyPost_ret (results_cct HF rfl rfl rfl rfl Tryz.isAgg4 Tryz.isAgg3 e1 e2) HF.defs ?_)
   have hd := HDEF.out
   unfold protest_Proves.f at hd
   rw [HA.out] at hd
   simp only [↓reduceIte] at hd
   cases hd
   exact ⟨rfl, HB3.out⟩
  have HY : Aside0 (¬ y = 0) := ⟨hy⟩
  refine wpIn_seq (wpIn_seq ?_)
  refine wpIn_region_k (fun _ => trivial) rfl wideC HF fun K hK => ?_
  iterate 2 (refine OpsK.step rfl rfl rfl ?_; go_simp)
  have hy := HY.out
  rw [show (y != 0) = true from by simpa using hy]
  refine OpsK.nil (hK _ _ fun a7 hf' => ?_)
  clear hK K HF
  have HF : Fr 23 [] [(10, .pointer (some ⟨w.heap.size + 1 + 1 + 1 + 1 + 1, 0, none⟩)), (11, .pointer (some ⟨w.heap.size + 1 + 1 + 1 + 1 + 1 + 1, 0, none⟩)), (12, .int .i64 y), (19, .bool true)] a7 := hf'.sub ⟨rfl, rfl, rfl, rfl, trivial⟩
  clear hf'
  refine wpIn_cond_true (HF.tmp rfl) (wpIn_seq ?_)
  have u1 := frozen_of HG1.out
  have hs2 : (w2.setCell ⟨w.heap.size + 1 + 1 + 1 + 1 + 1, 0, none⟩ (.bool false)).heap[w.heap.size + 1 + 1 + 1 + 1 + 1 + 1]? = _ := (Below.heap_setCell _ _ _ _ (by show w.heap.size + 1 + 1 + 1 + 1 + 1 + 1 ≠ w.heap.size + 1 + 1 + 1 + 1 + 1; omega)).trans HG2.out
  have u2 := frozen_of hs2
  have q1 := cell_of HG1.out
  have q2 := cell_of hs2
  have HS2 := Aside0.mk hs2
  clear hs2
  refine wpIn_region_k (fun _ => trivial) rfl wideC HF fun K hK => ?_
  iterate 4 (refine OpsK.step rfl rfl rfl ?_; go_simp)
  refine OpsK.nil (hK _ _ fun a9 hf' => ?_)
  clear hK K HF
  have HF : Fr 23 [] [(10, .pointer (some ⟨w.heap.size + 1 + 1 + 1 + 1 + 1, 0, none⟩)), (11, .pointer (some ⟨w.heap.size + 1 + 1 + 1 + 1 + 1 + 1, 0, none⟩)), (12, .int .i64 y)] a9 := hf'.sub ⟨rfl, rfl, rfl, trivial⟩
  clear hf'
  have e2 := cell_of (one_setCell (u := .int .i64 (-1)) HS2.out)
  have e1 := cell_of (show ((w2.setCell ⟨w.heap.size + 1 + 1 + 1 + 1 + 1, 0, none⟩ (.bool false)).setCell ⟨w.heap.size + 1 + 1 + 1 + 1 + 1 + 1, 0, none⟩ (.int .i64 (-1))).heap[w.heap.size + 1 + 1 + 1 + 1 + 1]? = _ from (Below.heap_setCell _ _ _ _ (by show w.heap.size + 1 + 1 + 1 + 1 + 1 ≠ w.heap.size + 1 + 1 + 1 + 1 + 1 + 1; omega)).trans (one_setCell (u := .bool false) HG1.out))
  refine wpIn_ret ?_
  simp only [Exit.then, Exit.inBlock, ↓reduceIte]
  refine (bodyPost_ret (results_cct HF rfl rfl rfl rfl Tryz.isAgg4 Tryz.isAgg3 e1 e2) HF.defs ?_)
  have hd := HDEF.out
  unfold protest_Proves.f at hd
  rw [HA.out] at hd
  simp only [if_neg HY.out] at hd
  cases hd
  exact ⟨rfl, (HB2.out.setCell (by show w.heap.size ≤ w.heap.size + 1 + 1 + 1 + 1 + 1; omega) _).setCell (by show w.heap.size ≤ w.heap.size + 1 + 1 + 1 + 1 + 1 + 1; omega) _⟩
 | ok r =>
  obtain ⟨r1', r2'⟩ := r
  rw [ha] at hp
  obtain ⟨rfl, w1, v1, v2, hw1, g1, g2, hr⟩ := hp
  obtain ⟨hr1, hr2'⟩ := hr
  subst hr1 hr2'
  have HG1 := Aside0.mk g1
  have HG2 := Aside0.mk g2
  have HB2 := Aside0.mk hb2
  have HA := Aside0.mk ha
  have HKP := Aside0.mk hkp
  clear g1 g2 ha hb2 hkp
  dsimp only
  iterate 4 (refine OpsK.step rfl rfl rfl ?_; go_simp)
  refine OpsK.nil (hK _ _ fun a' hf' => ?_)
  clear hK K HF
  have HF : Fr 23 [] [(10, .pointer (some ⟨w.heap.size + 1 + 1 + 1 + 1 + 1, 0, none⟩)), (11, .pointer (some ⟨w.heap.size + 1 + 1 + 1 + 1 + 1 + 1, 0, none⟩)), (12, .int .i64 0)] a' := hf'.sub ⟨rfl, rfl, rfl, trivial⟩
  clear hf'
  refine wpIn_seq (wpIn_seq ?_)
  refine wpIn_region_k (fun _ => trivial) rfl wideC HF fun K hK => ?_
  iterate 2 (refine OpsK.step rfl rfl rfl ?_; go_simp)
  refine OpsK.nil (hK _ _ fun a7 hf' => ?_)
  clear hK K HF
  have HF : Fr 23 [] [(10, .pointer (some ⟨w.heap.size + 1 + 1 + 1 + 1 + 1, 0, none⟩)), (11, .pointer (some ⟨w.heap.size + 1 + 1 + 1 + 1 + 1 + 1, 0, none⟩)), (12, .int .i64 0), (19, .bool false)] a7 := hf'.sub ⟨rfl, rfl, rfl, rfl, trivial⟩
  clear hf'
  refine wpIn_cond_false (HF.tmp rfl) (wpIn_skip ?_)
  simp only [Exit.then, Exit.inBlock, ↓reduceIte]
  refine wpIn_seq ?_
  refine wpIn_region_S (by kernel_rfl) HF (fun W => Still w2 W) (⟨rfl, rfl, rfl, rfl⟩) (by kernel_rfl) fun K hK => ?_
  apply ChainC.val
  ·rfl
  ·rfl
  ·rfl
  ·intro W hW
   have hg := (show W.heap[w.heap.size + 1 + 1 + 1 + 1 + 1]? = _ from hW.heap ▸ HG1.out)
   have q1 := cell_of hg
   have q2 := frozen_of hg
   clear hg
   have HW := Aside0.mk hW
   clear hW
   go_simp
   exact ⟨rfl, HW.out⟩
  apply ChainC.val
  ·rfl
  ·rfl
  ·rfl
  ·intro W hW
   have hg := (show W.heap[w.heap.size + 1 + 1 + 1 + 1 + 1 + 1]? = _ from hW.heap ▸ HG2.out)
   have q1 := cell_of hg
   have q2 := frozen_of hg
   clear hg
   have HW := Aside0.mk hW
   clear hW
   go_simp
   exact ⟨rfl, HW.out⟩
  apply ChainC.val
  ·rfl
  ·rfl
  ·rfl
  ·intro W hW
   have hg := (show W.heap[w.heap.size + 1 + 1 + 1 + 1 + 1]? = _ from hW.heap ▸ HG1.out)
   have q1 := cell_of hg
   have q2 := frozen_of hg
   clear hg
   have HW := Aside0.mk hW
   clear hW
   go_simp
   exact ⟨rfl, HW.out.store HG1.out⟩
  apply ChainC.val
  ·rfl
  ·rfl
  ·rfl
  ·intro W hW
   have hg := (show W.heap[w.heap.size + 1 + 1 + 1 + 1 + 1 + 1]? = _ from hW.heap ▸ HG2.out)
   have q1 := cell_of hg
   have q2 := frozen_of hg
   clear hg
   have HW := Aside0.mk hW
   clear hW
   go_simp
   exact ⟨rfl, HW.out.store HG2.out⟩
  apply ChainC.val
  ·rfl
  ·rfl
  ·rfl
  ·intro W hW
   have HW := Aside0.mk hW
   clear hW
   go_simp
   exact ⟨rfl, HW.out⟩
  refine ChainC.nil (hK _ fun a9 w3 hf' hS' => ?_)
  clear hK K HF
  have HF : Fr 23 [] [(10, .pointer (some ⟨w.heap.size + 1 + 1 + 1 + 1 + 1, 0, none⟩)), (11, .pointer (some ⟨w.heap.size + 1 + 1 + 1 + 1 + 1 + 1, 0, none⟩)), (12, .int .i64 0)] a9 := hf'.sub ⟨rfl, rfl, rfl, trivial⟩
  clear hf'
  have HS' := Aside0.mk hS'
  clear hS'
  have e1 := cell_of (show w3.heap[w.heap.size + 1 + 1 + 1 + 1 + 1]? = _ from HS'.out.heap ▸ HG1.out)
  have e2 := cell_of (show w3.heap[w.heap.size + 1 + 1 + 1 + 1 + 1 + 1]? = _ from HS'.out.heap ▸ HG2.out)
  have HB3 := Aside0.mk (HS'.out.below HB2.out)
  refine wpIn_ret (bodyPost_ret (results_cct HF rfl rfl rfl rfl Tryz.isAgg4 Tryz.isAgg3 e1 e2) HF.defs ?_)
  have hd := HDEF.out
  unfold protest_Proves.f at hd
  rw [HA.out] at hd
  cases hd
  exact ⟨rfl, HB3.out⟩
end
section
open Prot (heldOf roundL roundP addL addOne mkLevel mkLevels at_ firesB Good Fits)
attribute [local go_sem] slk sget sput uponK_value uponK_skip uponK_enter
open Prot (passL levelsF foldIf foldUn wants put)
attribute [local go_sem] max2_int max_two
def LevPost (w : World) (l : List S25) (e : Ending) (W : World) : Prop := Below w.heap.size w W ∧ match Prot.levels (l.map toC) with
 | none => e = .returned (.tuple #[.map none, .bool false])
 | some m => ∃ r, e = .returned (.tuple #[.map (some r), .bool true]) ∧ H.MapAt H.encS W r (emb m) ∧ w.heap.size ≤ r
theorem foldIf_take (m : List (ByteArray × Nat)) (l : List ByteArray) {k : Nat} (h : k < l.length) (n : Nat) : foldIf m (l.take (k + 1)) n = max (foldIf m (l.take k) n) (Prot.get m l[k]) := by
 rw [← List.take_append_getElem h, foldIf, List.foldl_append]; rfl
theorem foldUn_take (m : List (ByteArray × Nat)) (l : List ByteArray) {k : Nat} (h : k < l.length) (n : Nat) : foldUn m (l.take (k + 1)) n = max (foldUn m (l.take k) n) (Prot.get m l[k] + 1) := by
 rw [← List.take_append_getElem h, foldUn, List.foldl_append]; rfl
theorem foldUn_bound (m : List (ByteArray × Nat)) (l : List ByteArray) (n b : Nat) (hn : n ≤ b + 1) (h : ∀ z, Prot.get m z ≤ b) : foldUn m l n ≤ b + 1 := (Prot.foldUn_le m l n (b + 1)).2 ⟨hn, fun f _ => Nat.succ_le_succ (h f)⟩
theorem foldIf_bound (m : List (ByteArray × Nat)) (l : List ByteArray) (n b : Nat) (hn : n ≤ b) (h : ∀ z, Prot.get m z ≤ b) : foldIf m l n ≤ b := (Prot.foldIf_le m l n b).2 ⟨hn, fun f _ => h f⟩
set_option maxRecDepth 100000 in
set_option maxHeartbeats 4000000 in
theorem levels_calls (A : Option Addr) (c : Nat) (l : List S25) (w : World) (hr : Kd.C k25 w A l.length l) (hl : l.length ≤ 64) : Calls Tryz.prog 40 #[.slice A l.length c] w (LevPost w l) := by
 have HR := Aside0.mk hr
 have hmm := @run_makeMap Tryz.prog
 have hu25 := Tryz.underlying25
 clear hr
 refine callsK (args := [.slice A l.length c]) Tryz.func40 rfl Tryz.ntmps40 (by simp) fun a HF0 => ?_
 have HF : Fr 75 [] [(0, .slice A l.length c)] a := HF0
 clear HF0
 refine wpIn_seq ?_
 refine wpIn_region_k (fun _ => trivial) rfl wideC HF fun K hK => ?_
 iterate 2 (refine OpsK.step rfl rfl rfl ?_; go_simp)
 refine OpsK.nil (hK _ _ fun a' hf' => ?_)
 clear hK K HF
 have HF : Fr 75 [] [(0, .slice A l.length c)] a' := hf'.sub ⟨rfl, trivial⟩
 clear hf'
 refine wpIn_seq ?_
 refine wpIn_region_k (fun _ => trivial) rfl wideC HF fun K hK => ?_
 iterate 2 (refine OpsK.step rfl rfl rfl ?_; go_simp)
 refine OpsK.nil (hK _ _ fun a' hf' => ?_)
 clear hK K HF
 have HF : Fr 75 [] [(0, .slice A l.length c), (4, .map (some w.heap.size))] a' := hf'.sub ⟨rfl, rfl, trivial⟩
 clear hf'
 have hm0 : H.MapAt H.encS (w.alloc (.map #[] 0)) w.heap.size (emb []) := H.MapAt.new w
 have hb0 : Below w.heap.size w (w.alloc (.map #[] 0)) := (Below.refl _ w).alloc (Nat.le_refl _) _
 obtain ⟨r, hrr⟩ : ∃ r, r = w.heap.size := ⟨_, rfl⟩
 have hrw : w.heap.size ≤ r := Nat.le_of_eq hrr.symm
 rw [← hrr] at HF hm0
 generalize w.alloc (.map #[] 0) = w1 at hm0 hb0 ⊢
 clear hrr hmm
 refine wpIn_seq ?_
 refine wpIn_seq ?_
 refine wpIn_region_k (fun _ => trivial) rfl wideC HF fun K hK => ?_
 refine OpsK.step rfl rfl rfl ?_
 go_simp
 refine OpsK.nil (hK _ _ fun a' hf' => ?_)
 clear hK K HF
 have HF : Fr 75 [] [(0, .slice A l.length c), (4, .map (some r)), (5, .bool true)] a' := hf'.sub ⟨rfl, rfl, rfl, trivial⟩
 clear hf'
 refine wpIn_block (wpIn_loop_ghost (fun kq a wr => ∃ (b : Bool) (m : List (ByteArray × Nat)), Fr 75 [] [(0, .slice A l.length c), (4, .map (some r)), (5, .bool b)] a ∧ H.MapAt H.encS wr r (emb m) ∧ Below w.heap.size w wr ∧ (∀ z, Prot.get m z ≤ l.length) ∧ (if b = true then levelsF (l.map toC) kq m = some (Prot.levels (l.map toC)) else Prot.levels (l.map toC) = some m)) ((l.map toC).length * (l.map toC).length + 2) ⟨true, [], HF, hm0, hb0, fun _ => Nat.zero_le _, by rw [if_pos rfl]; exact Prot.levels_eq _⟩ ?_)
 clear HF hm0 hb0
 rintro kq a wr ⟨b, m, HF, hm, hbw, hvb, hlv⟩
 have HM := Aside0.mk hm
 have HBW := Aside0.mk hbw
 have HVB := Aside0.mk hvb
 have HLV := Aside0.mk hlv
 clear hm hbw hvb hlv
 refine wpIn_seq (wpIn_seq ?_)
 refine wpIn_region_k (fun _ => trivial) rfl wideC HF fun K hK => ?_
 refine OpsK.step rfl rfl rfl ?_
 go_simp
 refine OpsK.nil (hK _ _ fun a' hf' => ?_)
 clear hK K HF
 have HF : Fr 75 [] [(0, .slice A l.length c), (4, .map (some r)), (12, .bool b)] a' := hf'.sub ⟨rfl, rfl, rfl, trivial⟩
 clear hf'
 cases b with
 | false =>
  refine wpIn_cond_false (HF.tmp rfl) (wpIn_exit ?_)
  simp only [Exit.then, Exit.inBlock, ↓reduceIte]
  have hlv : Prot.levels (l.map toC) = some m := by have := HLV.out; simpa using this
  refine wpIn_seq ?_
  refine wpIn_region_k (fun _ => trivial) rfl wideC HF fun K hK => ?_
  iterate 3 (refine OpsK.step rfl rfl rfl ?_; go_simp)
  refine OpsK.nil (hK _ _ fun a9 hf' => ?_)
  clear hK K HF
  have HF : Fr 75 [] [(2, .map (some r)), (3, .bool true)] a9 := hf'.sub ⟨rfl, rfl, trivial⟩
  clear hf'
  refine wpIn_ret ?_
  exact HF.ret2 rfl rfl rfl ⟨HBW.out, by rw [hlv]; exact ⟨r, rfl, HM.out, hrw⟩⟩
 | true =>
  refine wpIn_cond_true (HF.tmp rfl) (wpIn_skip ?_)
  cases kq with
  | zero => have := HLV.out; simp [levelsF] at this
  | succ k1 =>
  obtain ⟨RES, hres⟩ : ∃ RES, RES = passL l.length (l.map toC) m false := ⟨_, rfl⟩
  have HRES := Aside0.mk hres
  clear hres
  refine wpIn_block (wpIn_seq ?_)
  refine wpIn_region_k (fun _ => trivial) rfl wideC HF fun K hK => ?_
  refine OpsK.step rfl rfl rfl ?_
  go_simp
  refine OpsK.nil (hK _ _ fun a' hf' => ?_)
  clear hK K HF
  have HF : Fr 75 [] [(0, .slice A l.length c), (4, .map (some r)), (5, .bool false)] a' := hf'.sub ⟨rfl, rfl, rfl, trivial⟩
  clear hf'
  refine wpIn_seq ?_
  refine wpIn_region_k (fun _ => trivial) rfl wideC HF fun K hK => ?_
  refine OpsK.step rfl rfl rfl ?_
  go_simp
  refine OpsK.nil (hK _ _ fun a' hf' => ?_)
  clear hK K HF
  have HF : Fr 75 [] [(0, .slice A l.length c), (4, .map (some r)), (5, .bool false), (6, .int .i64 0)] a' := hf'.sub ⟨rfl, rfl, rfl, rfl, trivial⟩
  clear hf'
  refine wpIn_block (wpIn_loop (fun a wr => ∃ (more : Bool) (j : Nat) (m' : List (ByteArray × Nat)), j ≤ l.length ∧ Fr 75 [] [(0, .slice A l.length c), (4, .map (some r)), (5, .bool more), (6, .int .i64 (j : Nat))] a ∧ H.MapAt H.encS wr r (emb m') ∧ Below w.heap.size w wr ∧ (∀ z, Prot.get m' z ≤ l.length) ∧ RES = passL l.length ((l.map toC).drop j) m' more)
   (fun a _ => l.length - (intOf (a.eval (.tmp 6))).toNat) ⟨false, 0, m, Nat.zero_le _, HF, HM.out, HBW.out, HVB.out, HRES.out⟩ ?_)
  clear HF HM HBW HVB
  rintro a wr ⟨more, j, m', hj, HF, hm, hbw, hvb, hp⟩
  have hmu : l.length - (intOf (a.eval (.tmp 6))).toNat = l.length - j := by rw [HF.tmp (k := 6) rfl]; simp [intOf]
  rw [hmu]
  clear hmu
  have HM := Aside0.mk hm
  have HBW := Aside0.mk hbw
  have HVB := Aside0.mk hvb
  have HP := Aside0.mk hp
  clear hm hbw hvb hp
  refine wpIn_seq (wpIn_seq ?_)
  by_cases hjl : j < l.length
  ·have hlt : ((j : Nat) : Int) < ((l.length : Nat) : Int) := by omega
   have hr0r := Kd.C_below HR.out HBW.out
   obtain ⟨ad, A3, c3, A4, c4, hA0, x0, x1, x2, x3, x4, x5, l3, g3, l4, g4⟩ := at_T25 hr0r (j : Int) (by omega) (by omega)
   simp only [Int.toNat_natCast] at x0 x1 x2 x3 x4 x5
   have hpc := HP.out
   rw [pass_cons _ _ _ hjl] at hpc
   obtain ⟨x, hx⟩ : ∃ x, x = rd_T25 l (j : Int) := ⟨_, rfl⟩
   rw [← hx] at x0 x1 x2 x3 x4 x5 l3 g3 l4 g4 hpc
   have hlen3 := g3.2.1
   have hlen4 := g4.2.1
   have HPC := Aside0.mk hpc
   have HG3 := Aside0.mk g3
   have HG4 := Aside0.mk g4
   have HL3 := Aside0.mk l3
   have HL4 := Aside0.mk l4
   have HWJ := Aside0.mk (wrapJ (j := j) (by omega))
   cases A with
   | none => cases hA0
   | some ad0 =>
   cases hA0
   clear hpc g3 g4 l3 l4 hx hr0r HP
   refine wpIn_region_k (fun _ => trivial) rfl wideC HF fun K hK => ?_
   iterate 4 (refine OpsK.step rfl rfl rfl ?_; go_simp)
   refine OpsK.nil (hK _ _ fun a' hf' => ?_)
   clear hK K HF
   have HF : Fr 75 [] [(0, .slice (some ad) l.length c), (4, .map (some r)), (5, .bool more), (6, .int .i64 (j : Nat)), (16, .bool true)] a' := hf'.sub ⟨rfl, rfl, rfl, rfl, rfl, trivial⟩
   clear hf'
   refine wpIn_cond_true (HF.tmp rfl) (wpIn_skip ?_)
   show Code.wpIn _ _ _ (Code.seq _ _) _ _ _
   refine wpIn_seq (wpIn_block (wpIn_seq ?_))
   refine wpIn_region_k (fun _ => trivial) rfl wideC HF fun K hK => ?_
   iterate 6 (refine OpsK.step rfl rfl rfl ?_; go_simp)
   refine OpsK.nil (hK _ _ fun a' hf' => ?_)
   clear hK K HF
   have HF : Fr 75 [] [(0, .slice (some ad) l.length c), (4, .map (some r)), (5, .bool more), (6, .int .i64 (j : Nat)), (7, .pointer (some ⟨wr.heap.size, 0, none⟩))] a' := hf'.sub ⟨rfl, rfl, rfl, rfl, rfl, trivial⟩
   clear hf'
   have hcb : (wr.alloc (.cells #[.string x.f0, .int .i64 x.f1, .int .i64 x.f2, .slice A3 x.f3.length c3, .slice A4 x.f4.length c4, .string x.f5] 25)).heap[wr.heap.size]? = some (.cells #[.string x.f0, .int .i64 x.f1, .int .i64 x.f2, .slice A3 x.f3.length c3, .slice A4 x.f4.length c4, .string x.f5] 25 (0, 0)) := World.alloc_heap_new wr _
   have hw1 : Below wr.heap.size wr (wr.alloc (.cells #[.string x.f0, .int .i64 x.f1, .int .i64 x.f2, .slice A3 x.f3.length c3, .slice A4 x.f4.length c4, .string x.f5] 25)) := (Below.refl _ wr).alloc (Nat.le_refl _) _
   generalize hcl : wr.heap.size = cb at hcb HF
   generalize wr.alloc (.cells #[.string x.f0, .int .i64 x.f1, .int .i64 x.f2, .slice A3 x.f3.length c3, .slice A4 x.f4.length c4, .string x.f5] 25) = w1 at hcb hw1 ⊢
   have k3 : w1.cell? ⟨cb, 3, none⟩ = some (.slice A3 x.f3.length c3) := by unfold World.cell?; rw [hcb]; rfl
   have k4 : w1.cell? ⟨cb, 4, none⟩ = some (.slice A4 x.f4.length c4) := by unfold World.cell?; rw [hcb]; rfl
   have k5 : w1.cell? ⟨cb, 5, none⟩ = some (.string x.f5) := by unfold World.cell?; rw [hcb]; rfl
   have HM2 : Aside0 (H.MapAt H.encS w1 r (emb m')) := ⟨HM.out.below hw1 HM.out.lt⟩
   have HB2 : Aside0 (Below w.heap.size w w1) := ⟨below_then HBW.out HBW.out.size hw1⟩
   have HG32 := Aside0.mk (Kd.C_below HG3.out hw1)
   have HG42 := Aside0.mk (Kd.C_below HG4.out hw1)
   have hlk : ∀ s, (Instr.lookup 62 (.map (some r)) (.string s) false).run Tryz.prog w1 = .ok (.int .i64 (Prot.get m' s : Nat)) w1 := fun s => by
    rw [← emb_get]
    exact run_lookup_at keyS Tryz.underlying62 Tryz.underlying9 HM2.out zero3 _
   have HLK := Aside0.mk hlk
   clear hcb hw1 hcl x0 x1 x2 x3 x4 x5 hlk
   obtain ⟨n0, hn0⟩ : ∃ n0, n0 = Prot.get m' x.f5 := ⟨_, rfl⟩
   have hlk5 := HLK.out x.f5
   rw [← hn0] at hlk5
   have HN0 := Aside0.mk hn0
   have hn0b : n0 ≤ l.length := by rw [hn0]; exact HVB.out _
   clear hn0
   refine wpIn_seq ?_
   refine wpIn_region_k (fun _ => trivial) rfl wideC HF fun K hK => ?_
   iterate 5 (refine OpsK.step rfl rfl rfl ?_; go_simp)
   refine OpsK.nil (hK _ _ fun a' hf' => ?_)
   clear hK K HF
   have HF : Fr 75 [] [(0, .slice (some ad) l.length c), (4, .map (some r)), (5, .bool more), (6, .int .i64 (j : Nat)), (7, .pointer (some ⟨cb, 0, none⟩)), (8, .int .i64 (n0 : Nat))] a' := hf'.sub ⟨rfl, rfl, rfl, rfl, rfl, rfl, trivial⟩
   clear hf'
   refine wpIn_seq (wpIn_seq ?_)
   refine wpIn_region_k (fun _ => trivial) rfl wideC HF fun K hK => ?_
   refine OpsK.step rfl rfl rfl ?_
   go_simp
   refine OpsK.nil (hK _ _ fun a' hf' => ?_)
   clear hK K HF
   have HF : Fr 75 [] [(0, .slice (some ad) l.length c), (4, .map (some r)), (5, .bool more), (6, .int .i64 (j : Nat)), (7, .pointer (some ⟨cb, 0, none⟩)), (8, .int .i64 (n0 : Nat)), (9, .int .i64 0)] a' := hf'.sub ⟨rfl, rfl, rfl, rfl, rfl, rfl, rfl, trivial⟩
   clear hf'
   refine wpIn_block (wpIn_loop (fun a wr2 => ∃ n : Nat, n ≤ x.f3.length ∧ Fr 75 [] [(0, .slice (some ad) l.length c), (4, .map (some r)), (5, .bool more), (6, .int .i64 (j : Nat)), (7, .pointer (some ⟨cb, 0, none⟩)), (8, .int .i64 ((foldIf m' (x.f3.take n) n0 : Nat) : Int)), (9, .int .i64 (n : Nat))] a ∧ w1 = wr2)
    (fun a _ => x.f3.length - (intOf (a.eval (.tmp 9))).toNat) ⟨0, Nat.zero_le _, HF, rfl⟩ ?_)
   clear HF
   rintro a wr2 ⟨n, hn, HF, rfl⟩
   have hmu : x.f3.length - (intOf (a.eval (.tmp 9))).toNat = x.f3.length - n := by rw [HF.tmp (k := 9) rfl]; simp [intOf]
   rw [hmu]
   clear hmu
   refine wpIn_seq (wpIn_seq ?_)
   by_cases hnl : n < x.f3.length
   ·have hltn : ((n : Nat) : Int) < ((x.f3.length : Nat) : Int) := by omega
    obtain ⟨ad3, hA3, hc3⟩ := Kd.at_string HG32.out (n : Int) (by omega) (by omega)
    simp only [Int.toNat_natCast] at hc3
    rw [hA3] at k3
    obtain ⟨s, hs⟩ : ∃ s, s = rdOf ByteArray.empty x.f3 (n : Int) := ⟨_, rfl⟩
    rw [← hs] at hc3
    have hsn : s = x.f3[n] := by rw [hs]; simp [rdOf, List.getD_eq_getElem?_getD, List.getElem?_eq_getElem hnl]
    have hlks := HLK.out s
    obtain ⟨g, hg⟩ : ∃ g, g = Prot.get m' s := ⟨_, rfl⟩
    rw [← hg] at hlks
    have hgb : g ≤ l.length := by rw [hg]; exact HVB.out _
    have htk : foldIf m' (x.f3.take (n + 1)) n0 = max (foldIf m' (x.f3.take n) n0) (g) := by rw [foldIf_take _ _ hnl, ← hsn, hg]
    obtain ⟨q, hq⟩ : ∃ q, q = foldIf m' (x.f3.take n) n0 := ⟨_, rfl⟩
    rw [← hq] at HF htk
    have HTK := Aside0.mk htk
    have HWN := Aside0.mk (wrapJ (j := n) (by omega))
    clear hs hsn hg htk hq
    refine wpIn_region_k (fun _ => trivial) rfl wideC HF fun K hK => ?_
    iterate 5 (refine OpsK.step rfl rfl rfl ?_; go_simp)
    refine OpsK.nil (hK _ _ fun a' hf' => ?_)
    clear hK K HF
    have HF : Fr 75 [] [(0, .slice (some ad) l.length c), (4, .map (some r)), (5, .bool more), (6, .int .i64 (j : Nat)), (7, .pointer (some ⟨cb, 0, none⟩)), (8, .int .i64 (q : Nat)), (9, .int .i64 (n : Nat)), (31, .bool true)] a' := hf'.sub ⟨rfl, rfl, rfl, rfl, rfl, rfl, rfl, rfl, trivial⟩
    clear hf'
    refine wpIn_cond_true (HF.tmp rfl) (wpIn_skip ?_)
    show Code.wpIn _ _ _ (Code.seq _ _) _ _ _
    refine wpIn_seq (wpIn_block ?_)
    refine wpIn_region_k (fun _ => trivial) rfl wideC HF fun K hK => ?_
    iterate 9 (refine OpsK.step rfl rfl rfl ?_; go_simp)
    rw [if_max]
    refine OpsK.step rfl rfl rfl ?_
    go_simp
    refine OpsK.nil (hK _ _ fun a2 hf' => ?_)
    clear hK K HF
    have HF : Fr 75 [] [(0, .slice (some ad) l.length c), (4, .map (some r)), (5, .bool more), (6, .int .i64 (j : Nat)), (7, .pointer (some ⟨cb, 0, none⟩)), (8, .int .i64 ((max q (g) : Nat) : Int)), (9, .int .i64 (n : Nat))] a2 := hf'.sub ⟨rfl, rfl, rfl, rfl, rfl, rfl, rfl, trivial⟩
    clear hf'
    rw [← HTK.out] at HF
    show Code.wpIn _ _ _ (Code.region 12 _ _) _ _ _
    refine wpIn_region_k (fun _ => trivial) rfl wideC HF fun K hK => ?_
    iterate 3 (refine OpsK.step rfl rfl rfl ?_; go_simp)
    refine OpsK.nil (hK _ _ fun a3 hf' => ?_)
    clear hK K HF
    rw [HWN.out] at hf'
    have HF : Fr 75 [] [(0, .slice (some ad) l.length c), (4, .map (some r)), (5, .bool more), (6, .int .i64 (j : Nat)), (7, .pointer (some ⟨cb, 0, none⟩)), (8, .int .i64 ((foldIf m' (x.f3.take (n + 1)) n0 : Nat) : Int)), (9, .int .i64 ((n + 1 : Nat) : Int))] a3 := hf'.sub ⟨rfl, rfl, rfl, rfl, rfl, rfl, rfl, trivial⟩
    clear hf'
    refine ⟨⟨n + 1, by omega, HF, rfl⟩, ?_⟩
    rw [HF.tmp (k := 9) rfl]
    simp only [intOf]
    omega
   ·obtain rfl : n = x.f3.length := by omega
    have hnlt : ¬ ((x.f3.length : Nat) : Int) < ((x.f3.length : Nat) : Int) := by omega
    rw [List.take_length] at HF
    obtain ⟨q3, hq3⟩ : ∃ q, q = foldIf m' x.f3 n0 := ⟨_, rfl⟩
    rw [← hq3] at HF
    have HEq3 := Aside0.mk hq3
    clear hq3
    refine wpIn_region_k (fun _ => trivial) rfl wideC HF fun K hK => ?_
    iterate 5 (refine OpsK.step rfl rfl rfl ?_; go_simp)
    refine OpsK.nil (hK _ _ fun a' hf' => ?_)
    clear hK K HF
    have HF : Fr 75 [] [(0, .slice (some ad) l.length c), (4, .map (some r)), (5, .bool more), (6, .int .i64 (j : Nat)), (7, .pointer (some ⟨cb, 0, none⟩)), (8, .int .i64 (q3 : Nat)), (31, .bool false)] a' := hf'.sub ⟨rfl, rfl, rfl, rfl, rfl, rfl, rfl, trivial⟩
    clear hf'
    refine wpIn_cond_false (HF.tmp rfl) (wpIn_exit ?_)
    simp only [Exit.then, Exit.inBlock, ↓reduceIte]
    clear hnlt
    have hq3 := HEq3.out
    have hq3b : q3 ≤ l.length := by rw [hq3]; exact foldIf_bound _ _ _ _ hn0b HVB.out
    have HQ3 := Aside0.mk hq3
    clear hq3 k3
    refine wpIn_seq (wpIn_seq ?_)
    refine wpIn_region_k (fun _ => trivial) rfl wideC HF fun K hK => ?_
    refine OpsK.step rfl rfl rfl ?_
    go_simp
    refine OpsK.nil (hK _ _ fun a' hf' => ?_)
    clear hK K HF
    have HF : Fr 75 [] [(0, .slice (some ad) l.length c), (4, .map (some r)), (5, .bool more), (6, .int .i64 (j : Nat)), (7, .pointer (some ⟨cb, 0, none⟩)), (8, .int .i64 (q3 : Nat)), (10, .int .i64 0)] a' := hf'.sub ⟨rfl, rfl, rfl, rfl, rfl, rfl, rfl, trivial⟩
    clear hf'
    refine wpIn_block (wpIn_loop (fun a wr2 => ∃ n : Nat, n ≤ x.f4.length ∧ Fr 75 [] [(0, .slice (some ad) l.length c), (4, .map (some r)), (5, .bool more), (6, .int .i64 (j : Nat)), (7, .pointer (some ⟨cb, 0, none⟩)), (8, .int .i64 ((foldUn m' (x.f4.take n) q3 : Nat) : Int)), (10, .int .i64 (n : Nat))] a ∧ w1 = wr2)
     (fun a _ => x.f4.length - (intOf (a.eval (.tmp 10))).toNat) ⟨0, Nat.zero_le _, HF, rfl⟩ ?_)
    clear HF
    rintro a wr2 ⟨n, hn, HF, rfl⟩
    have hmu : x.f4.length - (intOf (a.eval (.tmp 10))).toNat = x.f4.length - n := by rw [HF.tmp (k := 10) rfl]; simp [intOf]
    rw [hmu]
    clear hmu
    refine wpIn_seq (wpIn_seq ?_)
    by_cases hnl : n < x.f4.length
    ·have hltn : ((n : Nat) : Int) < ((x.f4.length : Nat) : Int) := by omega
     obtain ⟨ad3, hA3, hc3⟩ := Kd.at_string HG42.out (n : Int) (by omega) (by omega)
     simp only [Int.toNat_natCast] at hc3
     rw [hA3] at k4
     obtain ⟨s, hs⟩ : ∃ s, s = rdOf ByteArray.empty x.f4 (n : Int) := ⟨_, rfl⟩
     rw [← hs] at hc3
     have hsn : s = x.f4[n] := by rw [hs]; simp [rdOf, List.getD_eq_getElem?_getD, List.getElem?_eq_getElem hnl]
     have hlks := HLK.out s
     obtain ⟨g, hg⟩ : ∃ g, g = Prot.get m' s := ⟨_, rfl⟩
     rw [← hg] at hlks
     have hgb : g ≤ l.length := by rw [hg]; exact HVB.out _
     have htk : foldUn m' (x.f4.take (n + 1)) q3 = max (foldUn m' (x.f4.take n) q3) (g + 1) := by rw [foldUn_take _ _ hnl, ← hsn, hg]
     obtain ⟨q, hq⟩ : ∃ q, q = foldUn m' (x.f4.take n) q3 := ⟨_, rfl⟩
     rw [← hq] at HF htk
     have HTK := Aside0.mk htk
     have HWN := Aside0.mk (wrapJ (j := n) (by omega))
     clear hs hsn hg htk hq
     refine wpIn_region_k (fun _ => trivial) rfl wideC HF fun K hK => ?_
     iterate 5 (refine OpsK.step rfl rfl rfl ?_; go_simp)
     refine OpsK.nil (hK _ _ fun a' hf' => ?_)
     clear hK K HF
     have HF : Fr 75 [] [(0, .slice (some ad) l.length c), (4, .map (some r)), (5, .bool more), (6, .int .i64 (j : Nat)), (7, .pointer (some ⟨cb, 0, none⟩)), (8, .int .i64 (q : Nat)), (10, .int .i64 (n : Nat)), (47, .bool true)] a' := hf'.sub ⟨rfl, rfl, rfl, rfl, rfl, rfl, rfl, rfl, trivial⟩
     clear hf'
     refine wpIn_cond_true (HF.tmp rfl) (wpIn_skip ?_)
     show Code.wpIn _ _ _ (Code.seq _ _) _ _ _
     refine wpIn_seq (wpIn_block ?_)
     have hwg := wrapJ (j := g) (by omega)
     refine wpIn_region_k (fun _ => trivial) rfl wideC HF fun K hK => ?_
     iterate 10 (refine OpsK.step rfl rfl rfl ?_; go_simp)
     rw [if_max1]
     refine OpsK.step rfl rfl rfl ?_
     go_simp
     refine OpsK.nil (hK _ _ fun a2 hf' => ?_)
     clear hK K HF
     have HF : Fr 75 [] [(0, .slice (some ad) l.length c), (4, .map (some r)), (5, .bool more), (6, .int .i64 (j : Nat)), (7, .pointer (some ⟨cb, 0, none⟩)), (8, .int .i64 ((max q (g + 1) : Nat) : Int)), (10, .int .i64 (n : Nat))] a2 := hf'.sub ⟨rfl, rfl, rfl, rfl, rfl, rfl, rfl, trivial⟩
     clear hf'
     rw [← HTK.out] at HF
     show Code.wpIn _ _ _ (Code.region 16 _ _) _ _ _
     refine wpIn_region_k (fun _ => trivial) rfl wideC HF fun K hK => ?_
     iterate 3 (refine OpsK.step rfl rfl rfl ?_; go_simp)
     refine OpsK.nil (hK _ _ fun a3 hf' => ?_)
     clear hK K HF
     rw [HWN.out] at hf'
     have HF : Fr 75 [] [(0, .slice (some ad) l.length c), (4, .map (some r)), (5, .bool more), (6, .int .i64 (j : Nat)), (7, .pointer (some ⟨cb, 0, none⟩)), (8, .int .i64 ((foldUn m' (x.f4.take (n + 1)) q3 : Nat) : Int)), (10, .int .i64 ((n + 1 : Nat) : Int))] a3 := hf'.sub ⟨rfl, rfl, rfl, rfl, rfl, rfl, rfl, trivial⟩
     clear hf'
     refine ⟨⟨n + 1, by omega, HF, rfl⟩, ?_⟩
     rw [HF.tmp (k := 10) rfl]
     simp only [intOf]
     omega
    ·obtain rfl : n = x.f4.length := by omega
     have hnlt : ¬ ((x.f4.length : Nat) : Int) < ((x.f4.length : Nat) : Int) := by omega
     rw [List.take_length] at HF
     obtain ⟨q4, hq4⟩ : ∃ q, q = foldUn m' x.f4 q3 := ⟨_, rfl⟩
     rw [← hq4] at HF
     have HEq4 := Aside0.mk hq4
     clear hq4
     refine wpIn_region_k (fun _ => trivial) rfl wideC HF fun K hK => ?_
     iterate 5 (refine OpsK.step rfl rfl rfl ?_; go_simp)
     refine OpsK.nil (hK _ _ fun a' hf' => ?_)
     clear hK K HF
     have HF : Fr 75 [] [(0, .slice (some ad) l.length c), (4, .map (some r)), (5, .bool more), (6, .int .i64 (j : Nat)), (7, .pointer (some ⟨cb, 0, none⟩)), (8, .int .i64 (q4 : Nat)), (47, .bool false)] a' := hf'.sub ⟨rfl, rfl, rfl, rfl, rfl, rfl, rfl, trivial⟩
     clear hf'
     refine wpIn_cond_false (HF.tmp rfl) (wpIn_exit ?_)
     simp only [Exit.then, Exit.inBlock, ↓reduceIte]
     clear hnlt
     have hq4 := HEq4.out
     have hq4b : q4 ≤ l.length + 1 := by rw [hq4]; exact foldUn_bound _ _ _ _ (by omega) HVB.out
     have hwants : wants m' (toC x) = q4 := by unfold wants; rw [hq4, HQ3.out, HN0.out]; rfl
     have hpc := HPC.out
     rw [hwants, ← HN0.out] at hpc
     have HPC2 := Aside0.mk hpc
     clear hq4 hwants hpc k4 HPC
     refine wpIn_seq (wpIn_seq ?_)
     by_cases hgt : l.length < q4
     ·have hgt' : ((l.length : Nat) : Int) < ((q4 : Nat) : Int) := by omega
      have hpc := HPC2.out
      rw [if_pos hgt] at hpc
      have hlv := HLV.out
      unfold levelsF at hlv
      rw [if_pos rfl, List.length_map, ← HRES.out, hpc] at hlv
      have hnone : Prot.levels (l.map toC) = none := by simpa using hlv.symm
      have HNN := Aside0.mk hnone
      clear hpc hlv hnone
      refine wpIn_region_k (fun _ => trivial) rfl wideC HF fun K hK => ?_
      iterate 4 (refine OpsK.step rfl rfl rfl ?_; go_simp)
      refine OpsK.nil (hK _ _ fun a' hf' => ?_)
      clear hK K HF
      have HF : Fr 75 [] [(0, .slice (some ad) l.length c), (4, .map (some r)), (5, .bool more), (6, .int .i64 (j : Nat)), (7, .pointer (some ⟨cb, 0, none⟩)), (63, .bool true)] a' := hf'.sub ⟨rfl, rfl, rfl, rfl, rfl, rfl, trivial⟩
      clear hf'
      refine wpIn_cond_true (HF.tmp rfl) (wpIn_seq ?_)
      refine wpIn_region_k (fun _ => trivial) rfl wideC HF fun K hK => ?_
      iterate 2 (refine OpsK.step rfl rfl rfl ?_; go_simp)
      refine OpsK.nil (hK _ _ fun a9 hf' => ?_)
      clear hK K HF
      have HF : Fr 75 [] [(2, .map none), (3, .bool false)] a9 := hf'.sub ⟨rfl, rfl, trivial⟩
      clear hf'
      refine wpIn_ret ?_
      simp only [Exit.then, Exit.inBlock, ↓reduceIte]
      exact HF.ret2 rfl rfl rfl ⟨HB2.out, by rw [HNN.out]⟩
     ·have hgt' : ¬ ((l.length : Nat) : Int) < ((q4 : Nat) : Int) := by omega
      have hpc := HPC2.out
      rw [if_neg hgt] at hpc
      have HPC3 := Aside0.mk hpc
      clear hpc
      refine wpIn_region_k (fun _ => trivial) rfl wideC HF fun K hK => ?_
      iterate 4 (refine OpsK.step rfl rfl rfl ?_; go_simp)
      refine OpsK.nil (hK _ _ fun a' hf' => ?_)
      clear hK K HF
      have HF : Fr 75 [] [(0, .slice (some ad) l.length c), (4, .map (some r)), (5, .bool more), (6, .int .i64 (j : Nat)), (7, .pointer (some ⟨cb, 0, none⟩)), (8, .int .i64 (q4 : Nat)), (63, .bool false)] a' := hf'.sub ⟨rfl, rfl, rfl, rfl, rfl, rfl, rfl, trivial⟩
      clear hf'
      refine wpIn_cond_false (HF.tmp rfl) (wpIn_skip ?_)
      clear hgt'
      show Code.wpIn _ _ _ (Code.seq _ _) _ _ _
      refine wpIn_seq ?_
      by_cases hup : n0 < q4
      ·have hup' : ((n0 : Nat) : Int) < ((q4 : Nat) : Int) := by omega
       have hpc := HPC3.out
       rw [if_pos hup] at hpc
       have hmu := run_mapUpdate_at (P := Tryz.prog) keyS Tryz.underlying62 Tryz.underlying9 HM2.out x.f5 (.int .i64 (q4 : Nat))
       rw [← emb_put] at hmu
       simp only [H.encS] at hmu
       have hm3 : H.MapAt H.encS (putMap H.encS w1 r (emb (put m' x.f5 q4))) r (emb (put m' x.f5 q4)) := HM2.out.put _
       have hb3 : Below w.heap.size w (putMap H.encS w1 r (emb (put m' x.f5 q4))) := below_putMap HB2.out hrw _
       obtain ⟨w3, hw3⟩ : ∃ w3, w3 = putMap H.encS w1 r (emb (put m' x.f5 q4)) := ⟨_, rfl⟩
       rw [← hw3] at hmu hm3 hb3
       have hvb3 : ∀ z, Prot.get (put m' x.f5 q4) z ≤ l.length := by
        intro z
        by_cases e : x.f5 = z
        ·subst e; rw [Prot.get_put_same]; omega
        ·rw [Prot.get_put_other _ _ e]; exact HVB.out z
       have HPC4 := Aside0.mk hpc
       have HM3 := Aside0.mk hm3
       have HB3 := Aside0.mk hb3
       have HVB3 := Aside0.mk hvb3
       clear hpc hm3 hb3 hw3 hvb3
       refine wpIn_region_k (fun _ => trivial) rfl wideC HF fun K hK => ?_
       iterate 6 (refine OpsK.step rfl rfl rfl ?_; go_simp)
       refine OpsK.nil (hK _ _ fun a' hf' => ?_)
       clear hK K HF
       have HF : Fr 75 [] [(0, .slice (some ad) l.length c), (4, .map (some r)), (5, .bool more), (6, .int .i64 (j : Nat)), (7, .pointer (some ⟨cb, 0, none⟩)), (8, .int .i64 (q4 : Nat)), (69, .bool true)] a' := hf'.sub ⟨rfl, rfl, rfl, rfl, rfl, rfl, rfl, trivial⟩
       clear hf'
       refine wpIn_cond_true (HF.tmp rfl) (wpIn_seq ?_)
       clear hup'
       refine wpIn_region_k (fun _ => trivial) rfl wideC HF fun K hK => ?_
       iterate 5 (refine OpsK.step rfl rfl rfl ?_; go_simp)
       refine OpsK.nil (hK _ _ fun a' hf' => ?_)
       clear hK K HF
       have HF : Fr 75 [] [(0, .slice (some ad) l.length c), (4, .map (some r)), (5, .bool more), (6, .int .i64 (j : Nat)), (7, .pointer (some ⟨cb, 0, none⟩))] a' := hf'.sub ⟨rfl, rfl, rfl, rfl, rfl, trivial⟩
       clear hf'
       refine wpIn_region_k (fun _ => trivial) rfl wideC HF fun K hK => ?_
       refine OpsK.step rfl rfl rfl ?_
       go_simp
       refine OpsK.nil (hK _ _ fun a' hf' => ?_)
       clear hK K HF
       have HF : Fr 75 [] [(0, .slice (some ad) l.length c), (4, .map (some r)), (7, .pointer (some ⟨cb, 0, none⟩)), (5, .bool true), (6, .int .i64 (j : Nat))] a' := hf'.sub ⟨rfl, rfl, rfl, rfl, rfl, trivial⟩
       clear hf'
       show Code.wpIn _ _ _ (Code.region 7 _ _) _ _ _
       refine wpIn_region_k (fun _ => trivial) rfl wideC HF fun K hK => ?_
       iterate 3 (refine OpsK.step rfl rfl rfl ?_; go_simp)
       refine OpsK.nil (hK _ _ fun a3 hf' => ?_)
       clear hK K HF
       rw [HWJ.out] at hf'
       have HF : Fr 75 [] [(0, .slice (some ad) l.length c), (4, .map (some r)), (5, .bool true), (6, .int .i64 ((j + 1 : Nat) : Int))] a3 := hf'.sub ⟨rfl, rfl, rfl, rfl, trivial⟩
       clear hf'
       refine ⟨⟨true, j + 1, put m' x.f5 q4, by omega, HF, HM3.out, HB3.out, HVB3.out, HPC4.out⟩, ?_⟩
       rw [HF.tmp (k := 6) rfl]
       simp only [intOf]
       omega
      ·have hup' : ¬ ((n0 : Nat) : Int) < ((q4 : Nat) : Int) := by omega
       have hpc := HPC3.out
       rw [if_neg hup] at hpc
       have HPC4 := Aside0.mk hpc
       clear hpc
       refine wpIn_region_k (fun _ => trivial) rfl wideC HF fun K hK => ?_
       iterate 6 (refine OpsK.step rfl rfl rfl ?_; go_simp)
       refine OpsK.nil (hK _ _ fun a' hf' => ?_)
       clear hK K HF
       have HF : Fr 75 [] [(0, .slice (some ad) l.length c), (4, .map (some r)), (5, .bool more), (6, .int .i64 (j : Nat)), (7, .pointer (some ⟨cb, 0, none⟩)), (69, .bool false)] a' := hf'.sub ⟨rfl, rfl, rfl, rfl, rfl, rfl, trivial⟩
       clear hf'
       refine wpIn_cond_false (HF.tmp rfl) (wpIn_skip ?_)
       show Code.wpIn _ _ _ (Code.region 7 _ _) _ _ _
       refine wpIn_region_k (fun _ => trivial) rfl wideC HF fun K hK => ?_
       iterate 3 (refine OpsK.step rfl rfl rfl ?_; go_simp)
       refine OpsK.nil (hK _ _ fun a3 hf' => ?_)
       clear hK K HF
       rw [HWJ.out] at hf'
       have HF : Fr 75 [] [(0, .slice (some ad) l.length c), (4, .map (some r)), (5, .bool more), (6, .int .i64 ((j + 1 : Nat) : Int))] a3 := hf'.sub ⟨rfl, rfl, rfl, rfl, trivial⟩
       clear hf'
       refine ⟨⟨more, j + 1, m', by omega, HF, HM2.out, HB2.out, HVB.out, HPC4.out⟩, ?_⟩
       rw [HF.tmp (k := 6) rfl]
       simp only [intOf]
       omega
  ·obtain rfl : j = l.length := by omega
   have hnlt : ¬ ((l.length : Nat) : Int) < ((l.length : Nat) : Int) := by omega
   have hres : RES = some (m', more) := by
    have h := HP.out
    rw [List.drop_of_length_le (by simp)] at h
    exact h
   have hlv := HLV.out
   unfold levelsF at hlv
   rw [if_pos rfl, List.length_map, ← HRES.out, hres] at hlv
   have hnext : if more = true then levelsF (l.map toC) k1 m' = some (Prot.levels (l.map toC)) else Prot.levels (l.map toC) = some m' := by
    cases more with
    | true => simpa using hlv
    | false => simpa using hlv.symm
   have HNX := Aside0.mk hnext
   clear hlv hnext hres HP HLV HRES
   refine wpIn_region_k (fun _ => trivial) rfl wideC HF fun K hK => ?_
   iterate 4 (refine OpsK.step rfl rfl rfl ?_; go_simp)
   refine OpsK.nil (hK _ _ fun a' hf' => ?_)
   clear hK K HF
   have HF : Fr 75 [] [(0, .slice A l.length c), (4, .map (some r)), (5, .bool more), (16, .bool false)] a' := hf'.sub ⟨rfl, rfl, rfl, rfl, trivial⟩
   clear hf'
   refine wpIn_cond_false (HF.tmp rfl) (wpIn_exit ?_)
   simp only [Exit.then, Exit.inBlock, ↓reduceIte]
   exact ⟨k1, Nat.lt_succ_self _, more, m', HF.sub ⟨rfl, rfl, rfl, trivial⟩, HM.out, HBW.out, HVB.out, HNX.out⟩
end
end Go.Proofs.YtlhkeohcickiaaaGreatDoor.E

