/- Part 21 of 36 of the proof of ProtestProofs: lemmas, without conditions. -/
import Derived.Test.YtlhkeohcickiaaaGreatDoorKP20
import Derived.Recover
import Derived.Defers
import Derived.Test.YtlhkeohcickiaaaGreatDoorKP19
set_option linter.all false
namespace Go.Proofs.YtlhkeohcickiaaaGreatDoor.E
open Go.RowKit Go.Proofs.YtlhkeohcickiaaaGreatDoor.H Go.Proofs.YtlhkeohcickiaaaGreatDoorW.PrintWords Go.Proofs.YtlhkeohcickiaaaGreatDoorW.PrintLast Go.Proofs.YtlhkeohcickiaaaGreatDoorW.PrintMore
section
def firesW (hs : List (ByteArray × Value)) (ed : Int) (lo hi : Int) (ifs unl : List ByteArray) (thn : ByteArray) : Bool :=
 (decide (lo ≤ ed) && decide (ed ≤ hi)) && (!has hs thn && (ifs.all (has hs) && !(unl.any (has hs))))
theorem bool_of_true {hs : List (ByteArray × Value)} (hb : ∀ p ∈ hs, p.2 = .bool true) (s : ByteArray) : (mget hs s).getD (.bool false) = .bool (has hs s) := by
 unfold has
 cases h : mget hs s with
 | none => rfl
 | some v =>
  obtain ⟨_, h2, _⟩ := mget_some h
  have := hb _ (List.mem_of_getElem? h2)
  simp only at this
  rw [this]; rfl
theorem stands_any (a0 : ByteArray) (a1 a2 : Int) (A3 : Option Addr) (c3 : Nat) (l3 : List ByteArray) (A4 : Option Addr) (c4 : Nat) (l4 : List ByteArray) (a5 : ByteArray) (ed : Int) (w : World)
  (hr3 : Kd.C Kd.string w A3 l3.length l3) (hc3 : l3.length ≤ c3) (hr4 : Kd.C Kd.string w A4 l4.length l4) (hc4 : l4.length ≤ c4) :
  Calls Tryz.prog 83 #[.agg #[.string a0, .int .i64 a1, .int .i64 a2, .slice A3 l3.length c3, .slice A4 l4.length c4, .string a5], .int .i64 ed] w fun e w' => e = .returned (.bool (decide (a1 ≤ ed) && decide (ed ≤ a2))) ∧ Below w.heap.size w w' :=
 protest_stands.calls a0 a1 a2 A3 c3 l3 A4 c4 l4 a5 ed _ w hr3 hc3 hr4 hc4 (by unfold protest_stands.f protest_within.f; by_cases h : a1 ≤ ed <;> simp [h])
attribute [local go_sem] SteadyRes_value SteadyRes_skip SteadyRes_enter
set_option maxRecDepth 100000 in
set_option maxHeartbeats 1000000 in
theorem fires_calls (wb h : Nat) (bv gv rv ov : Value) (ed : Int) (hs : List (ByteArray × Value)) (hb : ∀ p ∈ hs, p.2 = .bool true)
  (a0 : ByteArray) (a1 a2 : Int) (A3 : Option Addr) (c3 : Nat) (l3 : List ByteArray) (A4 : Option Addr) (c4 : Nat) (l4 : List ByteArray) (a5 : ByteArray) (w : World)
  (hw : w.heap[wb]? = some (.cells #[bv, .int .i64 ed, .map (some h), gv, rv, ov] 83 (0, 0))) (hm : H.MapAt H.encS w h hs)
  (hr3 : Kd.C Kd.string w A3 l3.length l3) (hc3 : l3.length ≤ c3) (hr4 : Kd.C Kd.string w A4 l4.length l4) (hc4 : l4.length ≤ c4) :
  Calls Tryz.prog 95 #[.pointer (some ⟨wb, 0, none⟩), .agg #[.string a0, .int .i64 a1, .int .i64 a2, .slice A3 l3.length c3, .slice A4 l4.length c4, .string a5]] w fun e w' => e = .returned (.bool (firesW hs ed a1 a2 l3 l4 a5)) ∧ Below w.heap.size w w' := by
 have hlt : wb < w.heap.size := (Array.getElem?_eq_some_iff.1 hw).1
 have hlm := hm.lt
 have hf : ∀ W, Kept25 w (#[.string a0, .int .i64 a1, .int .i64 a2, .slice A3 l3.length c3, .slice A4 l4.length c4, .string a5] : Array Value) W → W.cell? ⟨wb, 1, none⟩ = some (.int .i64 ed) ∧ W.cell? ⟨wb, 2, none⟩ = some (.map (some h)) ∧
   W.cell? ⟨w.heap.size, 3, none⟩ = some (.slice A3 l3.length c3) ∧ W.cell? ⟨w.heap.size, 4, none⟩ = some (.slice A4 l4.length c4) ∧ W.cell? ⟨w.heap.size, 5, none⟩ = some (.string a5) ∧
   (W.cell? ⟨w.heap.size, 0, none⟩ = some (.string a0) ∧ W.cell? ⟨w.heap.size, 1, none⟩ = some (.int .i64 a1) ∧ W.cell? ⟨w.heap.size, 2, none⟩ = some (.int .i64 a2)) ∧
   (Instr.lookup 71 (.map (some h)) (.string a5) false).run Tryz.prog W = .ok (.bool (has hs a5)) W := by
  intro W hW
  have e : W.heap[wb]? = _ := (hW.2.block wb hlt).trans hw
  refine ⟨by unfold World.cell?; rw [e]; rfl, by unfold World.cell?; rw [e]; rfl, hW.cell 3, hW.cell 4, hW.cell 5, ?_, ?_⟩
  ·exact ⟨hW.cell 0, hW.cell 1, hW.cell 2⟩
  ·rw [← bool_of_true hb]
   exact run_lookup_at keyS Tryz.underlying71 Tryz.underlying9 (hm.below hW.2 hlm) zero4 _
 have hk83 : ∀ W, Kept25 w (#[.string a0, .int .i64 a1, .int .i64 a2, .slice A3 l3.length c3, .slice A4 l4.length c4, .string a5] : Array Value) W → Calls Tryz.prog 83 #[.agg #[.string a0, .int .i64 a1, .int .i64 a2, .slice A3 l3.length c3, .slice A4 l4.length c4, .string a5], .int .i64 ed] W fun e W' => e = .returned (.bool (decide (a1 ≤ ed) && decide (ed ≤ a2))) ∧ Below W.heap.size W W' := fun W hW => stands_any _ _ _ _ _ _ _ _ _ _ _ _ (Kd.C_below hr3 hW.2) hc3 (Kd.C_below hr4 hW.2) hc4
 have hk106 : ∀ W, Kept25 w (#[.string a0, .int .i64 a1, .int .i64 a2, .slice A3 l3.length c3, .slice A4 l4.length c4, .string a5] : Array Value) W → Calls Tryz.prog 106 #[.map (some h), .slice A3 l3.length c3] W fun e W' => e = .returned (.bool (l3.all (has hs))) ∧ Below W.heap.size W W' := fun W hW => all_calls hs hb h _ _ _ _ (hm.below hW.2 hlm) (Kd.C_below hr3 hW.2)
 have hk47 : ∀ W, Kept25 w (#[.string a0, .int .i64 a1, .int .i64 a2, .slice A3 l3.length c3, .slice A4 l4.length c4, .string a5] : Array Value) W → Calls Tryz.prog 47 #[.map (some h), .slice A4 l4.length c4] W fun e W' => e = .returned (.bool (l4.any (has hs))) ∧ Below W.heap.size W W' := fun W hW => any_calls hs hb h _ _ _ _ (hm.below hW.2 hlm) (Kd.C_below hr4 hW.2)
 have HK0 := Aside0.mk (Kept25.mk' w (#[.string a0, .int .i64 a1, .int .i64 a2, .slice A3 l3.length c3, .slice A4 l4.length c4, .string a5] : Array Value))
 clear hr3 hr4 hm hw hlm hlt hb
 cases h1 : (decide (a1 ≤ ed) && decide (ed ≤ a2)) with
 | false =>
  rw [h1] at hk83
  have HF := Aside0.mk hf
  have H83 := Aside0.mk hk83
  have H1 := Aside0.mk h1
  clear hf hk83 hk106 hk47 h1
  have hu25 := Tryz.underlying25
  go_enter Tryz.func95, Tryz.ntmps95
  go_wp2
  refine wp_region_steady (by kernel_rfl) (Kept25 w (#[.string a0, .int .i64 a1, .int .i64 a2, .slice A3 l3.length c3, .slice A4 l4.length c4, .string a5] : Array Value)) HK0.out.drew (by decide +kernel) ?_
  apply Chain.val
  ·rfl
  ·intro W hW
   obtain ⟨y0, y1, y2, y3, y4, ⟨y5, y7, y8⟩, y6⟩ := HF.out W hW
   go_simp
   first | exact rfl | exact ⟨rfl, hW⟩
  simp only [Act.put, List.setIfInBounds_toArray, List.set_cons_succ, List.set_cons_zero]
  apply Chain.val
  ·rfl
  ·intro W hW
   obtain ⟨y0, y1, y2, y3, y4, ⟨y5, y7, y8⟩, y6⟩ := HF.out W hW
   go_simp
   first | exact rfl | exact ⟨rfl, hW⟩
  simp only [Act.put, List.setIfInBounds_toArray, List.set_cons_succ, List.set_cons_zero]
  apply Chain.val
  ·rfl
  ·intro W hW
   obtain ⟨y0, y1, y2, y3, y4, ⟨y5, y7, y8⟩, y6⟩ := HF.out W hW
   go_simp
   first | exact rfl | exact ⟨rfl, hW⟩
  simp only [Act.put, List.setIfInBounds_toArray, List.set_cons_succ, List.set_cons_zero]
  apply Chain.val
  ·rfl
  ·intro W hW
   obtain ⟨y0, y1, y2, y3, y4, ⟨y5, y7, y8⟩, y6⟩ := HF.out W hW
   go_simp
   first | exact rfl | exact ⟨rfl, hW⟩
  simp only [Act.put, List.setIfInBounds_toArray, List.set_cons_succ, List.set_cons_zero]
  apply Chain.val
  ·rfl
  ·intro W hW
   obtain ⟨y0, y1, y2, y3, y4, ⟨y5, y7, y8⟩, y6⟩ := HF.out W hW
   go_simp
   first | exact rfl | exact ⟨rfl, hW⟩
  simp only [Act.put, List.setIfInBounds_toArray, List.set_cons_succ, List.set_cons_zero]
  apply Chain.val
  ·rfl
  ·intro W hW
   obtain ⟨y0, y1, y2, y3, y4, ⟨y5, y7, y8⟩, y6⟩ := HF.out W hW
   go_simp
   exact (H83.out W hW).mono fun e w' ⟨he, hb⟩ => ⟨he, hW.below hb⟩
  simp only [Act.put, List.setIfInBounds_toArray, List.set_cons_succ, List.set_cons_zero]
  apply Chain.val
  ·rfl
  ·intro W hW
   obtain ⟨y0, y1, y2, y3, y4, ⟨y5, y7, y8⟩, y6⟩ := HF.out W hW
   go_simp
   first | exact rfl | exact ⟨rfl, hW⟩
  simp only [Act.put, List.setIfInBounds_toArray, List.set_cons_succ, List.set_cons_zero]
  refine Chain.skip (by rfl) ?_
  simp only [Act.put, List.setIfInBounds_toArray, List.set_cons_succ, List.set_cons_zero]
  refine Chain.skip (by rfl) ?_
  simp only [Act.put, List.setIfInBounds_toArray, List.set_cons_succ, List.set_cons_zero]
  refine Chain.skip (by rfl) ?_
  simp only [Act.put, List.setIfInBounds_toArray, List.set_cons_succ, List.set_cons_zero]
  refine Chain.skip (by rfl) ?_
  simp only [Act.put, List.setIfInBounds_toArray, List.set_cons_succ, List.set_cons_zero]
  refine Chain.skip (by rfl) ?_
  simp only [Act.put, List.setIfInBounds_toArray, List.set_cons_succ, List.set_cons_zero]
  refine Chain.skip (by rfl) ?_
  simp only [Act.put, List.setIfInBounds_toArray, List.set_cons_succ, List.set_cons_zero]
  refine Chain.skip (by rfl) ?_
  simp only [Act.put, List.setIfInBounds_toArray, List.set_cons_succ, List.set_cons_zero]
  refine Chain.skip (by rfl) ?_
  simp only [Act.put, List.setIfInBounds_toArray, List.set_cons_succ, List.set_cons_zero]
  apply Chain.val
  ·rfl
  ·intro W hW
   obtain ⟨y0, y1, y2, y3, y4, ⟨y5, y7, y8⟩, y6⟩ := HF.out W hW
   go_simp
   first | exact rfl | exact ⟨rfl, hW⟩
  simp only [Act.put, List.setIfInBounds_toArray, List.set_cons_succ, List.set_cons_zero]
  apply Chain.val
  ·rfl
  ·intro W hW
   obtain ⟨y0, y1, y2, y3, y4, ⟨y5, y7, y8⟩, y6⟩ := HF.out W hW
   go_simp
   first | exact rfl | exact ⟨rfl, hW⟩
  simp only [Act.put, List.setIfInBounds_toArray, List.set_cons_succ, List.set_cons_zero]
  refine Chain.skip (by rfl) ?_
  simp only [Act.put, List.setIfInBounds_toArray, List.set_cons_succ, List.set_cons_zero]
  refine Chain.skip (by rfl) ?_
  simp only [Act.put, List.setIfInBounds_toArray, List.set_cons_succ, List.set_cons_zero]
  refine Chain.skip (by rfl) ?_
  simp only [Act.put, List.setIfInBounds_toArray, List.set_cons_succ, List.set_cons_zero]
  refine Chain.skip (by rfl) ?_
  simp only [Act.put, List.setIfInBounds_toArray, List.set_cons_succ, List.set_cons_zero]
  refine Chain.skip (by rfl) ?_
  simp only [Act.put, List.setIfInBounds_toArray, List.set_cons_succ, List.set_cons_zero]
  refine Chain.skip (by rfl) ?_
  simp only [Act.put, List.setIfInBounds_toArray, List.set_cons_succ, List.set_cons_zero]
  refine Chain.skip (by rfl) ?_
  simp only [Act.put, List.setIfInBounds_toArray, List.set_cons_succ, List.set_cons_zero]
  apply Chain.val
  ·rfl
  ·intro W hW
   obtain ⟨y0, y1, y2, y3, y4, ⟨y5, y7, y8⟩, y6⟩ := HF.out W hW
   go_simp
   first | exact rfl | exact ⟨rfl, hW⟩
  simp only [Act.put, List.setIfInBounds_toArray, List.set_cons_succ, List.set_cons_zero]
  apply Chain.val
  ·rfl
  ·intro W hW
   obtain ⟨y0, y1, y2, y3, y4, ⟨y5, y7, y8⟩, y6⟩ := HF.out W hW
   go_simp
   first | exact rfl | exact ⟨rfl, hW⟩
  simp only [Act.put, List.setIfInBounds_toArray, List.set_cons_succ, List.set_cons_zero]
  refine Chain.skip (by rfl) ?_
  simp only [Act.put, List.setIfInBounds_toArray, List.set_cons_succ, List.set_cons_zero]
  refine Chain.skip (by rfl) ?_
  simp only [Act.put, List.setIfInBounds_toArray, List.set_cons_succ, List.set_cons_zero]
  refine Chain.skip (by rfl) ?_
  simp only [Act.put, List.setIfInBounds_toArray, List.set_cons_succ, List.set_cons_zero]
  refine Chain.skip (by rfl) ?_
  simp only [Act.put, List.setIfInBounds_toArray, List.set_cons_succ, List.set_cons_zero]
  refine Chain.skip (by rfl) ?_
  simp only [Act.put, List.setIfInBounds_toArray, List.set_cons_succ, List.set_cons_zero]
  refine Chain.skip (by rfl) ?_
  simp only [Act.put, List.setIfInBounds_toArray, List.set_cons_succ, List.set_cons_zero]
  refine Chain.skip (by rfl) ?_
  simp only [Act.put, List.setIfInBounds_toArray, List.set_cons_succ, List.set_cons_zero]
  refine Chain.skip (by rfl) ?_
  simp only [Act.put, List.setIfInBounds_toArray, List.set_cons_succ, List.set_cons_zero]
  apply Chain.val
  ·rfl
  ·intro W hW
   obtain ⟨y0, y1, y2, y3, y4, ⟨y5, y7, y8⟩, y6⟩ := HF.out W hW
   go_simp
   first | exact rfl | exact ⟨rfl, hW⟩
  simp only [Act.put, List.setIfInBounds_toArray, List.set_cons_succ, List.set_cons_zero]
  apply Chain.val
  ·rfl
  ·intro W hW
   obtain ⟨y0, y1, y2, y3, y4, ⟨y5, y7, y8⟩, y6⟩ := HF.out W hW
   go_simp
   first | exact rfl | exact ⟨rfl, hW⟩
  simp only [Act.put, List.setIfInBounds_toArray, List.set_cons_succ, List.set_cons_zero]
  refine Chain.nil ?_
  intro W hW
  have HW := Aside0.mk hW
  clear hW
  go_wp2
  go_ret
  exact ⟨by unfold firesW; rw [H1.out]; rfl, HW.out.2⟩
 | true =>
  rw [h1] at hk83
  cases h2 : has hs a5 with
  | true =>
   rw [h2] at hf
   have HF := Aside0.mk hf
   have H83 := Aside0.mk hk83
   have H1 := Aside0.mk h1
   have H2 := Aside0.mk h2
   clear hf hk83 hk106 hk47 h1 h2
   have hu25 := Tryz.underlying25
   go_enter Tryz.func95, Tryz.ntmps95
   go_wp2
   refine wp_region_steady (by kernel_rfl) (Kept25 w (#[.string a0, .int .i64 a1, .int .i64 a2, .slice A3 l3.length c3, .slice A4 l4.length c4, .string a5] : Array Value)) HK0.out.drew (by decide +kernel) ?_
   apply Chain.val
   ·rfl
   ·intro W hW
    obtain ⟨y0, y1, y2, y3, y4, ⟨y5, y7, y8⟩, y6⟩ := HF.out W hW
    go_simp
    first | exact rfl | exact ⟨rfl, hW⟩
   simp only [Act.put, List.setIfInBounds_toArray, List.set_cons_succ, List.set_cons_zero]
   apply Chain.val
   ·rfl
   ·intro W hW
    obtain ⟨y0, y1, y2, y3, y4, ⟨y5, y7, y8⟩, y6⟩ := HF.out W hW
    go_simp
    first | exact rfl | exact ⟨rfl, hW⟩
   simp only [Act.put, List.setIfInBounds_toArray, List.set_cons_succ, List.set_cons_zero]
   apply Chain.val
   ·rfl
   ·intro W hW
    obtain ⟨y0, y1, y2, y3, y4, ⟨y5, y7, y8⟩, y6⟩ := HF.out W hW
    go_simp
    first | exact rfl | exact ⟨rfl, hW⟩
   simp only [Act.put, List.setIfInBounds_toArray, List.set_cons_succ, List.set_cons_zero]
   apply Chain.val
   ·rfl
   ·intro W hW
    obtain ⟨y0, y1, y2, y3, y4, ⟨y5, y7, y8⟩, y6⟩ := HF.out W hW
    go_simp
    first | exact rfl | exact ⟨rfl, hW⟩
   simp only [Act.put, List.setIfInBounds_toArray, List.set_cons_succ, List.set_cons_zero]
   apply Chain.val
   ·rfl
   ·intro W hW
    obtain ⟨y0, y1, y2, y3, y4, ⟨y5, y7, y8⟩, y6⟩ := HF.out W hW
    go_simp
    first | exact rfl | exact ⟨rfl, hW⟩
   simp only [Act.put, List.setIfInBounds_toArray, List.set_cons_succ, List.set_cons_zero]
   apply Chain.val
   ·rfl
   ·intro W hW
    obtain ⟨y0, y1, y2, y3, y4, ⟨y5, y7, y8⟩, y6⟩ := HF.out W hW
    go_simp
    exact (H83.out W hW).mono fun e w' ⟨he, hb⟩ => ⟨he, hW.below hb⟩
   simp only [Act.put, List.setIfInBounds_toArray, List.set_cons_succ, List.set_cons_zero]
   apply Chain.val
   ·rfl
   ·intro W hW
    obtain ⟨y0, y1, y2, y3, y4, ⟨y5, y7, y8⟩, y6⟩ := HF.out W hW
    go_simp
    first | exact rfl | exact ⟨rfl, hW⟩
   simp only [Act.put, List.setIfInBounds_toArray, List.set_cons_succ, List.set_cons_zero]
   apply Chain.val
   ·rfl
   ·intro W hW
    obtain ⟨y0, y1, y2, y3, y4, ⟨y5, y7, y8⟩, y6⟩ := HF.out W hW
    go_simp
    first | exact rfl | exact ⟨rfl, hW⟩
   simp only [Act.put, List.setIfInBounds_toArray, List.set_cons_succ, List.set_cons_zero]
   apply Chain.val
   ·rfl
   ·intro W hW
    obtain ⟨y0, y1, y2, y3, y4, ⟨y5, y7, y8⟩, y6⟩ := HF.out W hW
    go_simp
    first | exact rfl | exact ⟨rfl, hW⟩
   simp only [Act.put, List.setIfInBounds_toArray, List.set_cons_succ, List.set_cons_zero]
   apply Chain.val
   ·rfl
   ·intro W hW
    obtain ⟨y0, y1, y2, y3, y4, ⟨y5, y7, y8⟩, y6⟩ := HF.out W hW
    go_simp
    first | exact rfl | exact ⟨rfl, hW⟩
   simp only [Act.put, List.setIfInBounds_toArray, List.set_cons_succ, List.set_cons_zero]
   apply Chain.val
   ·rfl
   ·intro W hW
    obtain ⟨y0, y1, y2, y3, y4, ⟨y5, y7, y8⟩, y6⟩ := HF.out W hW
    go_simp
    first | exact rfl | exact ⟨rfl, hW⟩
   simp only [Act.put, List.setIfInBounds_toArray, List.set_cons_succ, List.set_cons_zero]
   apply Chain.val
   ·rfl
   ·intro W hW
    obtain ⟨y0, y1, y2, y3, y4, ⟨y5, y7, y8⟩, y6⟩ := HF.out W hW
    go_simp
    first | exact rfl | exact ⟨rfl, hW⟩
   simp only [Act.put, List.setIfInBounds_toArray, List.set_cons_succ, List.set_cons_zero]
   apply Chain.val
   ·rfl
   ·intro W hW
    obtain ⟨y0, y1, y2, y3, y4, ⟨y5, y7, y8⟩, y6⟩ := HF.out W hW
    go_simp
    first | exact rfl | exact ⟨rfl, hW⟩
   simp only [Act.put, List.setIfInBounds_toArray, List.set_cons_succ, List.set_cons_zero]
   apply Chain.val
   ·rfl
   ·intro W hW
    obtain ⟨y0, y1, y2, y3, y4, ⟨y5, y7, y8⟩, y6⟩ := HF.out W hW
    go_simp
    first | exact rfl | exact ⟨rfl, hW⟩
   simp only [Act.put, List.setIfInBounds_toArray, List.set_cons_succ, List.set_cons_zero]
   apply Chain.val
   ·rfl
   ·intro W hW
    obtain ⟨y0, y1, y2, y3, y4, ⟨y5, y7, y8⟩, y6⟩ := HF.out W hW
    go_simp
    first | exact rfl | exact ⟨rfl, hW⟩
   simp only [Act.put, List.setIfInBounds_toArray, List.set_cons_succ, List.set_cons_zero]
   apply Chain.val
   ·rfl
   ·intro W hW
    obtain ⟨y0, y1, y2, y3, y4, ⟨y5, y7, y8⟩, y6⟩ := HF.out W hW
    go_simp
    first | exact rfl | exact ⟨rfl, hW⟩
   simp only [Act.put, List.setIfInBounds_toArray, List.set_cons_succ, List.set_cons_zero]
   apply Chain.val
   ·rfl
   ·intro W hW
    obtain ⟨y0, y1, y2, y3, y4, ⟨y5, y7, y8⟩, y6⟩ := HF.out W hW
    go_simp
    first | exact rfl | exact ⟨rfl, hW⟩
   simp only [Act.put, List.setIfInBounds_toArray, List.set_cons_succ, List.set_cons_zero]
   refine Chain.skip (by rfl) ?_
   simp only [Act.put, List.setIfInBounds_toArray, List.set_cons_succ, List.set_cons_zero]
   refine Chain.skip (by rfl) ?_
   simp only [Act.put, List.setIfInBounds_toArray, List.set_cons_succ, List.set_cons_zero]
   refine Chain.skip (by rfl) ?_
   simp only [Act.put, List.setIfInBounds_toArray, List.set_cons_succ, List.set_cons_zero]
   refine Chain.skip (by rfl) ?_
   simp only [Act.put, List.setIfInBounds_toArray, List.set_cons_succ, List.set_cons_zero]
   refine Chain.skip (by rfl) ?_
   simp only [Act.put, List.setIfInBounds_toArray, List.set_cons_succ, List.set_cons_zero]
   refine Chain.skip (by rfl) ?_
   simp only [Act.put, List.setIfInBounds_toArray, List.set_cons_succ, List.set_cons_zero]
   refine Chain.skip (by rfl) ?_
   simp only [Act.put, List.setIfInBounds_toArray, List.set_cons_succ, List.set_cons_zero]
   apply Chain.val
   ·rfl
   ·intro W hW
    obtain ⟨y0, y1, y2, y3, y4, ⟨y5, y7, y8⟩, y6⟩ := HF.out W hW
    go_simp
    first | exact rfl | exact ⟨rfl, hW⟩
   simp only [Act.put, List.setIfInBounds_toArray, List.set_cons_succ, List.set_cons_zero]
   apply Chain.val
   ·rfl
   ·intro W hW
    obtain ⟨y0, y1, y2, y3, y4, ⟨y5, y7, y8⟩, y6⟩ := HF.out W hW
    go_simp
    first | exact rfl | exact ⟨rfl, hW⟩
   simp only [Act.put, List.setIfInBounds_toArray, List.set_cons_succ, List.set_cons_zero]
   refine Chain.skip (by rfl) ?_
   simp only [Act.put, List.setIfInBounds_toArray, List.set_cons_succ, List.set_cons_zero]
   refine Chain.skip (by rfl) ?_
   simp only [Act.put, List.setIfInBounds_toArray, List.set_cons_succ, List.set_cons_zero]
   refine Chain.skip (by rfl) ?_
   simp only [Act.put, List.setIfInBounds_toArray, List.set_cons_succ, List.set_cons_zero]
   refine Chain.skip (by rfl) ?_
   simp only [Act.put, List.setIfInBounds_toArray, List.set_cons_succ, List.set_cons_zero]
   refine Chain.skip (by rfl) ?_
   simp only [Act.put, List.setIfInBounds_toArray, List.set_cons_succ, List.set_cons_zero]
   refine Chain.skip (by rfl) ?_
   simp only [Act.put, List.setIfInBounds_toArray, List.set_cons_succ, List.set_cons_zero]
   refine Chain.skip (by rfl) ?_
   simp only [Act.put, List.setIfInBounds_toArray, List.set_cons_succ, List.set_cons_zero]
   refine Chain.skip (by rfl) ?_
   simp only [Act.put, List.setIfInBounds_toArray, List.set_cons_succ, List.set_cons_zero]
   apply Chain.val
   ·rfl
   ·intro W hW
    obtain ⟨y0, y1, y2, y3, y4, ⟨y5, y7, y8⟩, y6⟩ := HF.out W hW
    go_simp
    first | exact rfl | exact ⟨rfl, hW⟩
   simp only [Act.put, List.setIfInBounds_toArray, List.set_cons_succ, List.set_cons_zero]
   apply Chain.val
   ·rfl
   ·intro W hW
    obtain ⟨y0, y1, y2, y3, y4, ⟨y5, y7, y8⟩, y6⟩ := HF.out W hW
    go_simp
    first | exact rfl | exact ⟨rfl, hW⟩
   simp only [Act.put, List.setIfInBounds_toArray, List.set_cons_succ, List.set_cons_zero]
   refine Chain.nil ?_
   intro W hW
   have HW := Aside0.mk hW
   clear hW
   go_wp2
   go_ret
   exact ⟨by unfold firesW; rw [H1.out, H2.out]; rfl, HW.out.2⟩
  | false =>
   rw [h2] at hf
   cases h3 : l3.all (has hs) with
   | false =>
    rw [h3] at hk106
    have HF := Aside0.mk hf
    have H83 := Aside0.mk hk83
    have H106 := Aside0.mk hk106
    have H1 := Aside0.mk h1
    have H2 := Aside0.mk h2
    have H3 := Aside0.mk h3
    clear hf hk83 hk106 hk47 h1 h2 h3
    have hu25 := Tryz.underlying25
    go_enter Tryz.func95, Tryz.ntmps95
    go_wp2
    refine wp_region_steady (by kernel_rfl) (Kept25 w (#[.string a0, .int .i64 a1, .int .i64 a2, .slice A3 l3.length c3, .slice A4 l4.length c4, .string a5] : Array Value)) HK0.out.drew (by decide +kernel) ?_
    apply Chain.val
    ·rfl
    ·intro W hW
     obtain ⟨y0, y1, y2, y3, y4, ⟨y5, y7, y8⟩, y6⟩ := HF.out W hW
     go_simp
     first | exact rfl | exact ⟨rfl, hW⟩
    simp only [Act.put, List.setIfInBounds_toArray, List.set_cons_succ, List.set_cons_zero]
    apply Chain.val
    ·rfl
    ·intro W hW
     obtain ⟨y0, y1, y2, y3, y4, ⟨y5, y7, y8⟩, y6⟩ := HF.out W hW
     go_simp
     first | exact rfl | exact ⟨rfl, hW⟩
    simp only [Act.put, List.setIfInBounds_toArray, List.set_cons_succ, List.set_cons_zero]
    apply Chain.val
    ·rfl
    ·intro W hW
     obtain ⟨y0, y1, y2, y3, y4, ⟨y5, y7, y8⟩, y6⟩ := HF.out W hW
     go_simp
     first | exact rfl | exact ⟨rfl, hW⟩
    simp only [Act.put, List.setIfInBounds_toArray, List.set_cons_succ, List.set_cons_zero]
    apply Chain.val
    ·rfl
    ·intro W hW
     obtain ⟨y0, y1, y2, y3, y4, ⟨y5, y7, y8⟩, y6⟩ := HF.out W hW
     go_simp
     first | exact rfl | exact ⟨rfl, hW⟩
    simp only [Act.put, List.setIfInBounds_toArray, List.set_cons_succ, List.set_cons_zero]
    apply Chain.val
    ·rfl
    ·intro W hW
     obtain ⟨y0, y1, y2, y3, y4, ⟨y5, y7, y8⟩, y6⟩ := HF.out W hW
     go_simp
     first | exact rfl | exact ⟨rfl, hW⟩
    simp only [Act.put, List.setIfInBounds_toArray, List.set_cons_succ, List.set_cons_zero]
    apply Chain.val
    ·rfl
    ·intro W hW
     obtain ⟨y0, y1, y2, y3, y4, ⟨y5, y7, y8⟩, y6⟩ := HF.out W hW
     go_simp
     exact (H83.out W hW).mono fun e w' ⟨he, hb⟩ => ⟨he, hW.below hb⟩
    simp only [Act.put, List.setIfInBounds_toArray, List.set_cons_succ, List.set_cons_zero]
    apply Chain.val
    ·rfl
    ·intro W hW
     obtain ⟨y0, y1, y2, y3, y4, ⟨y5, y7, y8⟩, y6⟩ := HF.out W hW
     go_simp
     first | exact rfl | exact ⟨rfl, hW⟩
    simp only [Act.put, List.setIfInBounds_toArray, List.set_cons_succ, List.set_cons_zero]
    apply Chain.val
    ·rfl
    ·intro W hW
     obtain ⟨y0, y1, y2, y3, y4, ⟨y5, y7, y8⟩, y6⟩ := HF.out W hW
     go_simp
     first | exact rfl | exact ⟨rfl, hW⟩
    simp only [Act.put, List.setIfInBounds_toArray, List.set_cons_succ, List.set_cons_zero]
    apply Chain.val
    ·rfl
    ·intro W hW
     obtain ⟨y0, y1, y2, y3, y4, ⟨y5, y7, y8⟩, y6⟩ := HF.out W hW
     go_simp
     first | exact rfl | exact ⟨rfl, hW⟩
    simp only [Act.put, List.setIfInBounds_toArray, List.set_cons_succ, List.set_cons_zero]
    apply Chain.val
    ·rfl
    ·intro W hW
     obtain ⟨y0, y1, y2, y3, y4, ⟨y5, y7, y8⟩, y6⟩ := HF.out W hW
     go_simp
     first | exact rfl | exact ⟨rfl, hW⟩
    simp only [Act.put, List.setIfInBounds_toArray, List.set_cons_succ, List.set_cons_zero]
    apply Chain.val
    ·rfl
    ·intro W hW
     obtain ⟨y0, y1, y2, y3, y4, ⟨y5, y7, y8⟩, y6⟩ := HF.out W hW
     go_simp
     first | exact rfl | exact ⟨rfl, hW⟩
    simp only [Act.put, List.setIfInBounds_toArray, List.set_cons_succ, List.set_cons_zero]
    apply Chain.val
    ·rfl
    ·intro W hW
     obtain ⟨y0, y1, y2, y3, y4, ⟨y5, y7, y8⟩, y6⟩ := HF.out W hW
     go_simp
     first | exact rfl | exact ⟨rfl, hW⟩
    simp only [Act.put, List.setIfInBounds_toArray, List.set_cons_succ, List.set_cons_zero]
    apply Chain.val
    ·rfl
    ·intro W hW
     obtain ⟨y0, y1, y2, y3, y4, ⟨y5, y7, y8⟩, y6⟩ := HF.out W hW
     go_simp
     first | exact rfl | exact ⟨rfl, hW⟩
    simp only [Act.put, List.setIfInBounds_toArray, List.set_cons_succ, List.set_cons_zero]
    apply Chain.val
    ·rfl
    ·intro W hW
     obtain ⟨y0, y1, y2, y3, y4, ⟨y5, y7, y8⟩, y6⟩ := HF.out W hW
     go_simp
     first | exact rfl | exact ⟨rfl, hW⟩
    simp only [Act.put, List.setIfInBounds_toArray, List.set_cons_succ, List.set_cons_zero]
    apply Chain.val
    ·rfl
    ·intro W hW
     obtain ⟨y0, y1, y2, y3, y4, ⟨y5, y7, y8⟩, y6⟩ := HF.out W hW
     go_simp
     first | exact rfl | exact ⟨rfl, hW⟩
    simp only [Act.put, List.setIfInBounds_toArray, List.set_cons_succ, List.set_cons_zero]
    apply Chain.val
    ·rfl
    ·intro W hW
     obtain ⟨y0, y1, y2, y3, y4, ⟨y5, y7, y8⟩, y6⟩ := HF.out W hW
     go_simp
     first | exact rfl | exact ⟨rfl, hW⟩
    simp only [Act.put, List.setIfInBounds_toArray, List.set_cons_succ, List.set_cons_zero]
    apply Chain.val
    ·rfl
    ·intro W hW
     obtain ⟨y0, y1, y2, y3, y4, ⟨y5, y7, y8⟩, y6⟩ := HF.out W hW
     go_simp
     first | exact rfl | exact ⟨rfl, hW⟩
    simp only [Act.put, List.setIfInBounds_toArray, List.set_cons_succ, List.set_cons_zero]
    apply Chain.val
    ·rfl
    ·intro W hW
     obtain ⟨y0, y1, y2, y3, y4, ⟨y5, y7, y8⟩, y6⟩ := HF.out W hW
     go_simp
     first | exact rfl | exact ⟨rfl, hW⟩
    simp only [Act.put, List.setIfInBounds_toArray, List.set_cons_succ, List.set_cons_zero]
    apply Chain.val
    ·rfl
    ·intro W hW
     obtain ⟨y0, y1, y2, y3, y4, ⟨y5, y7, y8⟩, y6⟩ := HF.out W hW
     go_simp
     first | exact rfl | exact ⟨rfl, hW⟩
    simp only [Act.put, List.setIfInBounds_toArray, List.set_cons_succ, List.set_cons_zero]
    apply Chain.val
    ·rfl
    ·intro W hW
     obtain ⟨y0, y1, y2, y3, y4, ⟨y5, y7, y8⟩, y6⟩ := HF.out W hW
     go_simp
     first | exact rfl | exact ⟨rfl, hW⟩
    simp only [Act.put, List.setIfInBounds_toArray, List.set_cons_succ, List.set_cons_zero]
    apply Chain.val
    ·rfl
    ·intro W hW
     obtain ⟨y0, y1, y2, y3, y4, ⟨y5, y7, y8⟩, y6⟩ := HF.out W hW
     go_simp
     first | exact rfl | exact ⟨rfl, hW⟩
    simp only [Act.put, List.setIfInBounds_toArray, List.set_cons_succ, List.set_cons_zero]
    apply Chain.val
    ·rfl
    ·intro W hW
     obtain ⟨y0, y1, y2, y3, y4, ⟨y5, y7, y8⟩, y6⟩ := HF.out W hW
     go_simp
     first | exact rfl | exact ⟨rfl, hW⟩
    simp only [Act.put, List.setIfInBounds_toArray, List.set_cons_succ, List.set_cons_zero]
    apply Chain.val
    ·rfl
    ·intro W hW
     obtain ⟨y0, y1, y2, y3, y4, ⟨y5, y7, y8⟩, y6⟩ := HF.out W hW
     go_simp
     first | exact rfl | exact ⟨rfl, hW⟩
    simp only [Act.put, List.setIfInBounds_toArray, List.set_cons_succ, List.set_cons_zero]
    apply Chain.val
    ·rfl
    ·intro W hW
     obtain ⟨y0, y1, y2, y3, y4, ⟨y5, y7, y8⟩, y6⟩ := HF.out W hW
     go_simp
     exact (H106.out W hW).mono fun e w' ⟨he, hb⟩ => ⟨he, hW.below hb⟩
    simp only [Act.put, List.setIfInBounds_toArray, List.set_cons_succ, List.set_cons_zero]
    apply Chain.val
    ·rfl
    ·intro W hW
     obtain ⟨y0, y1, y2, y3, y4, ⟨y5, y7, y8⟩, y6⟩ := HF.out W hW
     go_simp
     first | exact rfl | exact ⟨rfl, hW⟩
    simp only [Act.put, List.setIfInBounds_toArray, List.set_cons_succ, List.set_cons_zero]
    apply Chain.val
    ·rfl
    ·intro W hW
     obtain ⟨y0, y1, y2, y3, y4, ⟨y5, y7, y8⟩, y6⟩ := HF.out W hW
     go_simp
     first | exact rfl | exact ⟨rfl, hW⟩
    simp only [Act.put, List.setIfInBounds_toArray, List.set_cons_succ, List.set_cons_zero]
    refine Chain.skip (by rfl) ?_
    simp only [Act.put, List.setIfInBounds_toArray, List.set_cons_succ, List.set_cons_zero]
    refine Chain.skip (by rfl) ?_
    simp only [Act.put, List.setIfInBounds_toArray, List.set_cons_succ, List.set_cons_zero]
    refine Chain.skip (by rfl) ?_
    simp only [Act.put, List.setIfInBounds_toArray, List.set_cons_succ, List.set_cons_zero]
    refine Chain.skip (by rfl) ?_
    simp only [Act.put, List.setIfInBounds_toArray, List.set_cons_succ, List.set_cons_zero]
    refine Chain.skip (by rfl) ?_
    simp only [Act.put, List.setIfInBounds_toArray, List.set_cons_succ, List.set_cons_zero]
    refine Chain.skip (by rfl) ?_
    simp only [Act.put, List.setIfInBounds_toArray, List.set_cons_succ, List.set_cons_zero]
    refine Chain.skip (by rfl) ?_
    simp only [Act.put, List.setIfInBounds_toArray, List.set_cons_succ, List.set_cons_zero]
    refine Chain.skip (by rfl) ?_
    simp only [Act.put, List.setIfInBounds_toArray, List.set_cons_succ, List.set_cons_zero]
    apply Chain.val
    ·rfl
    ·intro W hW
     obtain ⟨y0, y1, y2, y3, y4, ⟨y5, y7, y8⟩, y6⟩ := HF.out W hW
     go_simp
     first | exact rfl | exact ⟨rfl, hW⟩
    simp only [Act.put, List.setIfInBounds_toArray, List.set_cons_succ, List.set_cons_zero]
    apply Chain.val
    ·rfl
    ·intro W hW
     obtain ⟨y0, y1, y2, y3, y4, ⟨y5, y7, y8⟩, y6⟩ := HF.out W hW
     go_simp
     first | exact rfl | exact ⟨rfl, hW⟩
    simp only [Act.put, List.setIfInBounds_toArray, List.set_cons_succ, List.set_cons_zero]
    refine Chain.nil ?_
    intro W hW
    have HW := Aside0.mk hW
    clear hW
    go_wp2
    go_ret
    exact ⟨by unfold firesW; rw [H1.out, H2.out, H3.out]; rfl, HW.out.2⟩
   | true =>
    rw [h3] at hk106
    have HF := Aside0.mk hf
    have H83 := Aside0.mk hk83
    have H106 := Aside0.mk hk106
    have H1 := Aside0.mk h1
    have H2 := Aside0.mk h2
    have H3 := Aside0.mk h3
    cases h4 : l4.any (has hs) with
    | false =>
     rw [h4] at hk47
     have H47 := Aside0.mk hk47
     have H4 := Aside0.mk h4
     clear hf hk83 hk106 hk47 h1 h2 h3 h4
     have hu25 := Tryz.underlying25
     go_enter Tryz.func95, Tryz.ntmps95
     go_wp2
     refine wp_region_steady (by kernel_rfl) (Kept25 w (#[.string a0, .int .i64 a1, .int .i64 a2, .slice A3 l3.length c3, .slice A4 l4.length c4, .string a5] : Array Value)) HK0.out.drew (by decide +kernel) ?_
     apply Chain.val
     ·rfl
     ·intro W hW
      obtain ⟨y0, y1, y2, y3, y4, ⟨y5, y7, y8⟩, y6⟩ := HF.out W hW
      go_simp
      first | exact rfl | exact ⟨rfl, hW⟩
     simp only [Act.put, List.setIfInBounds_toArray, List.set_cons_succ, List.set_cons_zero]
     apply Chain.val
     ·rfl
     ·intro W hW
      obtain ⟨y0, y1, y2, y3, y4, ⟨y5, y7, y8⟩, y6⟩ := HF.out W hW
      go_simp
      first | exact rfl | exact ⟨rfl, hW⟩
     simp only [Act.put, List.setIfInBounds_toArray, List.set_cons_succ, List.set_cons_zero]
     apply Chain.val
     ·rfl
     ·intro W hW
      obtain ⟨y0, y1, y2, y3, y4, ⟨y5, y7, y8⟩, y6⟩ := HF.out W hW
      go_simp
      first | exact rfl | exact ⟨rfl, hW⟩
     simp only [Act.put, List.setIfInBounds_toArray, List.set_cons_succ, List.set_cons_zero]
     apply Chain.val
     ·rfl
     ·intro W hW
      obtain ⟨y0, y1, y2, y3, y4, ⟨y5, y7, y8⟩, y6⟩ := HF.out W hW
      go_simp
      first | exact rfl | exact ⟨rfl, hW⟩
     simp only [Act.put, List.setIfInBounds_toArray, List.set_cons_succ, List.set_cons_zero]
     apply Chain.val
     ·rfl
     ·intro W hW
      obtain ⟨y0, y1, y2, y3, y4, ⟨y5, y7, y8⟩, y6⟩ := HF.out W hW
      go_simp
      first | exact rfl | exact ⟨rfl, hW⟩
     simp only [Act.put, List.setIfInBounds_toArray, List.set_cons_succ, List.set_cons_zero]
     apply Chain.val
     ·rfl
     ·intro W hW
      obtain ⟨y0, y1, y2, y3, y4, ⟨y5, y7, y8⟩, y6⟩ := HF.out W hW
      go_simp
      exact (H83.out W hW).mono fun e w' ⟨he, hb⟩ => ⟨he, hW.below hb⟩
     simp only [Act.put, List.setIfInBounds_toArray, List.set_cons_succ, List.set_cons_zero]
     apply Chain.val
     ·rfl
     ·intro W hW
      obtain ⟨y0, y1, y2, y3, y4, ⟨y5, y7, y8⟩, y6⟩ := HF.out W hW
      go_simp
      first | exact rfl | exact ⟨rfl, hW⟩
     simp only [Act.put, List.setIfInBounds_toArray, List.set_cons_succ, List.set_cons_zero]
     apply Chain.val
     ·rfl
     ·intro W hW
      obtain ⟨y0, y1, y2, y3, y4, ⟨y5, y7, y8⟩, y6⟩ := HF.out W hW
      go_simp
      first | exact rfl | exact ⟨rfl, hW⟩
     simp only [Act.put, List.setIfInBounds_toArray, List.set_cons_succ, List.set_cons_zero]
     apply Chain.val
     ·rfl
     ·intro W hW
      obtain ⟨y0, y1, y2, y3, y4, ⟨y5, y7, y8⟩, y6⟩ := HF.out W hW
      go_simp
      first | exact rfl | exact ⟨rfl, hW⟩
     simp only [Act.put, List.setIfInBounds_toArray, List.set_cons_succ, List.set_cons_zero]
     apply Chain.val
     ·rfl
     ·intro W hW
      obtain ⟨y0, y1, y2, y3, y4, ⟨y5, y7, y8⟩, y6⟩ := HF.out W hW
      go_simp
      first | exact rfl | exact ⟨rfl, hW⟩
     simp only [Act.put, List.setIfInBounds_toArray, List.set_cons_succ, List.set_cons_zero]
     apply Chain.val
     ·rfl
     ·intro W hW
      obtain ⟨y0, y1, y2, y3, y4, ⟨y5, y7, y8⟩, y6⟩ := HF.out W hW
      go_simp
      first | exact rfl | exact ⟨rfl, hW⟩
     simp only [Act.put, List.setIfInBounds_toArray, List.set_cons_succ, List.set_cons_zero]
     apply Chain.val
     ·rfl
     ·intro W hW
      obtain ⟨y0, y1, y2, y3, y4, ⟨y5, y7, y8⟩, y6⟩ := HF.out W hW
      go_simp
      first | exact rfl | exact ⟨rfl, hW⟩
     simp only [Act.put, List.setIfInBounds_toArray, List.set_cons_succ, List.set_cons_zero]
     apply Chain.val
     ·rfl
     ·intro W hW
      obtain ⟨y0, y1, y2, y3, y4, ⟨y5, y7, y8⟩, y6⟩ := HF.out W hW
      go_simp
      first | exact rfl | exact ⟨rfl, hW⟩
     simp only [Act.put, List.setIfInBounds_toArray, List.set_cons_succ, List.set_cons_zero]
     apply Chain.val
     ·rfl
     ·intro W hW
      obtain ⟨y0, y1, y2, y3, y4, ⟨y5, y7, y8⟩, y6⟩ := HF.out W hW
      go_simp
      first | exact rfl | exact ⟨rfl, hW⟩
     simp only [Act.put, List.setIfInBounds_toArray, List.set_cons_succ, List.set_cons_zero]
     apply Chain.val
     ·rfl
     ·intro W hW
      obtain ⟨y0, y1, y2, y3, y4, ⟨y5, y7, y8⟩, y6⟩ := HF.out W hW
      go_simp
      first | exact rfl | exact ⟨rfl, hW⟩
     simp only [Act.put, List.setIfInBounds_toArray, List.set_cons_succ, List.set_cons_zero]
     apply Chain.val
     ·rfl
     ·intro W hW
      obtain ⟨y0, y1, y2, y3, y4, ⟨y5, y7, y8⟩, y6⟩ := HF.out W hW
      go_simp
      first | exact rfl | exact ⟨rfl, hW⟩
     simp only [Act.put, List.setIfInBounds_toArray, List.set_cons_succ, List.set_cons_zero]
     apply Chain.val
     ·rfl
     ·intro W hW
      obtain ⟨y0, y1, y2, y3, y4, ⟨y5, y7, y8⟩, y6⟩ := HF.out W hW
      go_simp
      first | exact rfl | exact ⟨rfl, hW⟩
     simp only [Act.put, List.setIfInBounds_toArray, List.set_cons_succ, List.set_cons_zero]
     apply Chain.val
     ·rfl
     ·intro W hW
      obtain ⟨y0, y1, y2, y3, y4, ⟨y5, y7, y8⟩, y6⟩ := HF.out W hW
      go_simp
      first | exact rfl | exact ⟨rfl, hW⟩
     simp only [Act.put, List.setIfInBounds_toArray, List.set_cons_succ, List.set_cons_zero]
     apply Chain.val
     ·rfl
     ·intro W hW
      obtain ⟨y0, y1, y2, y3, y4, ⟨y5, y7, y8⟩, y6⟩ := HF.out W hW
      go_simp
      first | exact rfl | exact ⟨rfl, hW⟩
     simp only [Act.put, List.setIfInBounds_toArray, List.set_cons_succ, List.set_cons_zero]
     apply Chain.val
     ·rfl
     ·intro W hW
      obtain ⟨y0, y1, y2, y3, y4, ⟨y5, y7, y8⟩, y6⟩ := HF.out W hW
      go_simp
      first | exact rfl | exact ⟨rfl, hW⟩
     simp only [Act.put, List.setIfInBounds_toArray, List.set_cons_succ, List.set_cons_zero]
     apply Chain.val
     ·rfl
     ·intro W hW
      obtain ⟨y0, y1, y2, y3, y4, ⟨y5, y7, y8⟩, y6⟩ := HF.out W hW
      go_simp
      first | exact rfl | exact ⟨rfl, hW⟩
     simp only [Act.put, List.setIfInBounds_toArray, List.set_cons_succ, List.set_cons_zero]
     apply Chain.val
     ·rfl
     ·intro W hW
      obtain ⟨y0, y1, y2, y3, y4, ⟨y5, y7, y8⟩, y6⟩ := HF.out W hW
      go_simp
      first | exact rfl | exact ⟨rfl, hW⟩
     simp only [Act.put, List.setIfInBounds_toArray, List.set_cons_succ, List.set_cons_zero]
     apply Chain.val
     ·rfl
     ·intro W hW
      obtain ⟨y0, y1, y2, y3, y4, ⟨y5, y7, y8⟩, y6⟩ := HF.out W hW
      go_simp
      first | exact rfl | exact ⟨rfl, hW⟩
     simp only [Act.put, List.setIfInBounds_toArray, List.set_cons_succ, List.set_cons_zero]
     apply Chain.val
     ·rfl
     ·intro W hW
      obtain ⟨y0, y1, y2, y3, y4, ⟨y5, y7, y8⟩, y6⟩ := HF.out W hW
      go_simp
      exact (H106.out W hW).mono fun e w' ⟨he, hb⟩ => ⟨he, hW.below hb⟩
     simp only [Act.put, List.setIfInBounds_toArray, List.set_cons_succ, List.set_cons_zero]
     apply Chain.val
     ·rfl
     ·intro W hW
      obtain ⟨y0, y1, y2, y3, y4, ⟨y5, y7, y8⟩, y6⟩ := HF.out W hW
      go_simp
      first | exact rfl | exact ⟨rfl, hW⟩
     simp only [Act.put, List.setIfInBounds_toArray, List.set_cons_succ, List.set_cons_zero]
     apply Chain.val
     ·rfl
     ·intro W hW
      obtain ⟨y0, y1, y2, y3, y4, ⟨y5, y7, y8⟩, y6⟩ := HF.out W hW
      go_simp
      first | exact rfl | exact ⟨rfl, hW⟩
     simp only [Act.put, List.setIfInBounds_toArray, List.set_cons_succ, List.set_cons_zero]
     apply Chain.val
     ·rfl
     ·intro W hW
      obtain ⟨y0, y1, y2, y3, y4, ⟨y5, y7, y8⟩, y6⟩ := HF.out W hW
      go_simp
      first | exact rfl | exact ⟨rfl, hW⟩
     simp only [Act.put, List.setIfInBounds_toArray, List.set_cons_succ, List.set_cons_zero]
     apply Chain.val
     ·rfl
     ·intro W hW
      obtain ⟨y0, y1, y2, y3, y4, ⟨y5, y7, y8⟩, y6⟩ := HF.out W hW
      go_simp
      first | exact rfl | exact ⟨rfl, hW⟩
     simp only [Act.put, List.setIfInBounds_toArray, List.set_cons_succ, List.set_cons_zero]
     apply Chain.val
     ·rfl
     ·intro W hW
      obtain ⟨y0, y1, y2, y3, y4, ⟨y5, y7, y8⟩, y6⟩ := HF.out W hW
      go_simp
      first | exact rfl | exact ⟨rfl, hW⟩
     simp only [Act.put, List.setIfInBounds_toArray, List.set_cons_succ, List.set_cons_zero]
     apply Chain.val
     ·rfl
     ·intro W hW
      obtain ⟨y0, y1, y2, y3, y4, ⟨y5, y7, y8⟩, y6⟩ := HF.out W hW
      go_simp
      first | exact rfl | exact ⟨rfl, hW⟩
     simp only [Act.put, List.setIfInBounds_toArray, List.set_cons_succ, List.set_cons_zero]
     apply Chain.val
     ·rfl
     ·intro W hW
      obtain ⟨y0, y1, y2, y3, y4, ⟨y5, y7, y8⟩, y6⟩ := HF.out W hW
      go_simp
      first | exact rfl | exact ⟨rfl, hW⟩
     simp only [Act.put, List.setIfInBounds_toArray, List.set_cons_succ, List.set_cons_zero]
     apply Chain.val
     ·rfl
     ·intro W hW
      obtain ⟨y0, y1, y2, y3, y4, ⟨y5, y7, y8⟩, y6⟩ := HF.out W hW
      go_simp
      first | exact rfl | exact ⟨rfl, hW⟩
     simp only [Act.put, List.setIfInBounds_toArray, List.set_cons_succ, List.set_cons_zero]
     apply Chain.val
     ·rfl
     ·intro W hW
      obtain ⟨y0, y1, y2, y3, y4, ⟨y5, y7, y8⟩, y6⟩ := HF.out W hW
      go_simp
      exact (H47.out W hW).mono fun e w' ⟨he, hb⟩ => ⟨he, hW.below hb⟩
     simp only [Act.put, List.setIfInBounds_toArray, List.set_cons_succ, List.set_cons_zero]
     apply Chain.val
     ·rfl
     ·intro W hW
      obtain ⟨y0, y1, y2, y3, y4, ⟨y5, y7, y8⟩, y6⟩ := HF.out W hW
      go_simp
      first | exact rfl | exact ⟨rfl, hW⟩
     simp only [Act.put, List.setIfInBounds_toArray, List.set_cons_succ, List.set_cons_zero]
     apply Chain.val
     ·rfl
     ·intro W hW
      obtain ⟨y0, y1, y2, y3, y4, ⟨y5, y7, y8⟩, y6⟩ := HF.out W hW
      go_simp
      first | exact rfl | exact ⟨rfl, hW⟩
     simp only [Act.put, List.setIfInBounds_toArray, List.set_cons_succ, List.set_cons_zero]
     apply Chain.val
     ·rfl
     ·intro W hW
      obtain ⟨y0, y1, y2, y3, y4, ⟨y5, y7, y8⟩, y6⟩ := HF.out W hW
      go_simp
      first | exact rfl | exact ⟨rfl, hW⟩
     simp only [Act.put, List.setIfInBounds_toArray, List.set_cons_succ, List.set_cons_zero]
     refine Chain.nil ?_
     intro W hW
     have HW := Aside0.mk hW
     clear hW
     go_wp2
     go_ret
     exact ⟨by unfold firesW; rw [H1.out, H2.out, H3.out, H4.out]; rfl, HW.out.2⟩
    | true =>
     rw [h4] at hk47
     have H47 := Aside0.mk hk47
     have H4 := Aside0.mk h4
     clear hf hk83 hk106 hk47 h1 h2 h3 h4
     have hu25 := Tryz.underlying25
     go_enter Tryz.func95, Tryz.ntmps95
     go_wp2
     refine wp_region_steady (by kernel_rfl) (Kept25 w (#[.string a0, .int .i64 a1, .int .i64 a2, .slice A3 l3.length c3, .slice A4 l4.length c4, .string a5] : Array Value)) HK0.out.drew (by decide +kernel) ?_
     apply Chain.val
     ·rfl
     ·intro W hW
      obtain ⟨y0, y1, y2, y3, y4, ⟨y5, y7, y8⟩, y6⟩ := HF.out W hW
      go_simp
      first | exact rfl | exact ⟨rfl, hW⟩
     simp only [Act.put, List.setIfInBounds_toArray, List.set_cons_succ, List.set_cons_zero]
     apply Chain.val
     ·rfl
     ·intro W hW
      obtain ⟨y0, y1, y2, y3, y4, ⟨y5, y7, y8⟩, y6⟩ := HF.out W hW
      go_simp
      first | exact rfl | exact ⟨rfl, hW⟩
     simp only [Act.put, List.setIfInBounds_toArray, List.set_cons_succ, List.set_cons_zero]
     apply Chain.val
     ·rfl
     ·intro W hW
      obtain ⟨y0, y1, y2, y3, y4, ⟨y5, y7, y8⟩, y6⟩ := HF.out W hW
      go_simp
      first | exact rfl | exact ⟨rfl, hW⟩
     simp only [Act.put, List.setIfInBounds_toArray, List.set_cons_succ, List.set_cons_zero]
     apply Chain.val
     ·rfl
     ·intro W hW
      obtain ⟨y0, y1, y2, y3, y4, ⟨y5, y7, y8⟩, y6⟩ := HF.out W hW
      go_simp
      first | exact rfl | exact ⟨rfl, hW⟩
     simp only [Act.put, List.setIfInBounds_toArray, List.set_cons_succ, List.set_cons_zero]
     apply Chain.val
     ·rfl
     ·intro W hW
      obtain ⟨y0, y1, y2, y3, y4, ⟨y5, y7, y8⟩, y6⟩ := HF.out W hW
      go_simp
      first | exact rfl | exact ⟨rfl, hW⟩
     simp only [Act.put, List.setIfInBounds_toArray, List.set_cons_succ, List.set_cons_zero]
     apply Chain.val
     ·rfl
     ·intro W hW
      obtain ⟨y0, y1, y2, y3, y4, ⟨y5, y7, y8⟩, y6⟩ := HF.out W hW
      go_simp
      exact (H83.out W hW).mono fun e w' ⟨he, hb⟩ => ⟨he, hW.below hb⟩
     simp only [Act.put, List.setIfInBounds_toArray, List.set_cons_succ, List.set_cons_zero]
     apply Chain.val
     ·rfl
     ·intro W hW
      obtain ⟨y0, y1, y2, y3, y4, ⟨y5, y7, y8⟩, y6⟩ := HF.out W hW
      go_simp
      first | exact rfl | exact ⟨rfl, hW⟩
     simp only [Act.put, List.setIfInBounds_toArray, List.set_cons_succ, List.set_cons_zero]
     apply Chain.val
     ·rfl
     ·intro W hW
      obtain ⟨y0, y1, y2, y3, y4, ⟨y5, y7, y8⟩, y6⟩ := HF.out W hW
      go_simp
      first | exact rfl | exact ⟨rfl, hW⟩
     simp only [Act.put, List.setIfInBounds_toArray, List.set_cons_succ, List.set_cons_zero]
     apply Chain.val
     ·rfl
     ·intro W hW
      obtain ⟨y0, y1, y2, y3, y4, ⟨y5, y7, y8⟩, y6⟩ := HF.out W hW
      go_simp
      first | exact rfl | exact ⟨rfl, hW⟩
     simp only [Act.put, List.setIfInBounds_toArray, List.set_cons_succ, List.set_cons_zero]
     apply Chain.val
     ·rfl
     ·intro W hW
      obtain ⟨y0, y1, y2, y3, y4, ⟨y5, y7, y8⟩, y6⟩ := HF.out W hW
      go_simp
      first | exact rfl | exact ⟨rfl, hW⟩
     simp only [Act.put, List.setIfInBounds_toArray, List.set_cons_succ, List.set_cons_zero]
     apply Chain.val
     ·rfl
     ·intro W hW
      obtain ⟨y0, y1, y2, y3, y4, ⟨y5, y7, y8⟩, y6⟩ := HF.out W hW
      go_simp
      first | exact rfl | exact ⟨rfl, hW⟩
     simp only [Act.put, List.setIfInBounds_toArray, List.set_cons_succ, List.set_cons_zero]
     apply Chain.val
     ·rfl
     ·intro W hW
      obtain ⟨y0, y1, y2, y3, y4, ⟨y5, y7, y8⟩, y6⟩ := HF.out W hW
      go_simp
      first | exact rfl | exact ⟨rfl, hW⟩
     simp only [Act.put, List.setIfInBounds_toArray, List.set_cons_succ, List.set_cons_zero]
     apply Chain.val
     ·rfl
     ·intro W hW
      obtain ⟨y0, y1, y2, y3, y4, ⟨y5, y7, y8⟩, y6⟩ := HF.out W hW
      go_simp
      first | exact rfl | exact ⟨rfl, hW⟩
     simp only [Act.put, List.setIfInBounds_toArray, List.set_cons_succ, List.set_cons_zero]
     apply Chain.val
     ·rfl
     ·intro W hW
      obtain ⟨y0, y1, y2, y3, y4, ⟨y5, y7, y8⟩, y6⟩ := HF.out W hW
      go_simp
      first | exact rfl | exact ⟨rfl, hW⟩
     simp only [Act.put, List.setIfInBounds_toArray, List.set_cons_succ, List.set_cons_zero]
     apply Chain.val
     ·rfl
     ·intro W hW
      obtain ⟨y0, y1, y2, y3, y4, ⟨y5, y7, y8⟩, y6⟩ := HF.out W hW
      go_simp
      first | exact rfl | exact ⟨rfl, hW⟩
     simp only [Act.put, List.setIfInBounds_toArray, List.set_cons_succ, List.set_cons_zero]
     apply Chain.val
     ·rfl
     ·intro W hW
      obtain ⟨y0, y1, y2, y3, y4, ⟨y5, y7, y8⟩, y6⟩ := HF.out W hW
      go_simp
      first | exact rfl | exact ⟨rfl, hW⟩
     simp only [Act.put, List.setIfInBounds_toArray, List.set_cons_succ, List.set_cons_zero]
     apply Chain.val
     ·rfl
     ·intro W hW
      obtain ⟨y0, y1, y2, y3, y4, ⟨y5, y7, y8⟩, y6⟩ := HF.out W hW
      go_simp
      first | exact rfl | exact ⟨rfl, hW⟩
     simp only [Act.put, List.setIfInBounds_toArray, List.set_cons_succ, List.set_cons_zero]
     apply Chain.val
     ·rfl
     ·intro W hW
      obtain ⟨y0, y1, y2, y3, y4, ⟨y5, y7, y8⟩, y6⟩ := HF.out W hW
      go_simp
      first | exact rfl | exact ⟨rfl, hW⟩
     simp only [Act.put, List.setIfInBounds_toArray, List.set_cons_succ, List.set_cons_zero]
     apply Chain.val
     ·rfl
     ·intro W hW
      obtain ⟨y0, y1, y2, y3, y4, ⟨y5, y7, y8⟩, y6⟩ := HF.out W hW
      go_simp
      first | exact rfl | exact ⟨rfl, hW⟩
     simp only [Act.put, List.setIfInBounds_toArray, List.set_cons_succ, List.set_cons_zero]
     apply Chain.val
     ·rfl
     ·intro W hW
      obtain ⟨y0, y1, y2, y3, y4, ⟨y5, y7, y8⟩, y6⟩ := HF.out W hW
      go_simp
      first | exact rfl | exact ⟨rfl, hW⟩
     simp only [Act.put, List.setIfInBounds_toArray, List.set_cons_succ, List.set_cons_zero]
     apply Chain.val
     ·rfl
     ·intro W hW
      obtain ⟨y0, y1, y2, y3, y4, ⟨y5, y7, y8⟩, y6⟩ := HF.out W hW
      go_simp
      first | exact rfl | exact ⟨rfl, hW⟩
     simp only [Act.put, List.setIfInBounds_toArray, List.set_cons_succ, List.set_cons_zero]
     apply Chain.val
     ·rfl
     ·intro W hW
      obtain ⟨y0, y1, y2, y3, y4, ⟨y5, y7, y8⟩, y6⟩ := HF.out W hW
      go_simp
      first | exact rfl | exact ⟨rfl, hW⟩
     simp only [Act.put, List.setIfInBounds_toArray, List.set_cons_succ, List.set_cons_zero]
     apply Chain.val
     ·rfl
     ·intro W hW
      obtain ⟨y0, y1, y2, y3, y4, ⟨y5, y7, y8⟩, y6⟩ := HF.out W hW
      go_simp
      first | exact rfl | exact ⟨rfl, hW⟩
     simp only [Act.put, List.setIfInBounds_toArray, List.set_cons_succ, List.set_cons_zero]
     apply Chain.val
     ·rfl
     ·intro W hW
      obtain ⟨y0, y1, y2, y3, y4, ⟨y5, y7, y8⟩, y6⟩ := HF.out W hW
      go_simp
      exact (H106.out W hW).mono fun e w' ⟨he, hb⟩ => ⟨he, hW.below hb⟩
     simp only [Act.put, List.setIfInBounds_toArray, List.set_cons_succ, List.set_cons_zero]
     apply Chain.val
     ·rfl
     ·intro W hW
      obtain ⟨y0, y1, y2, y3, y4, ⟨y5, y7, y8⟩, y6⟩ := HF.out W hW
      go_simp
      first | exact rfl | exact ⟨rfl, hW⟩
     simp only [Act.put, List.setIfInBounds_toArray, List.set_cons_succ, List.set_cons_zero]
     apply Chain.val
     ·rfl
     ·intro W hW
      obtain ⟨y0, y1, y2, y3, y4, ⟨y5, y7, y8⟩, y6⟩ := HF.out W hW
      go_simp
      first | exact rfl | exact ⟨rfl, hW⟩
     simp only [Act.put, List.setIfInBounds_toArray, List.set_cons_succ, List.set_cons_zero]
     apply Chain.val
     ·rfl
     ·intro W hW
      obtain ⟨y0, y1, y2, y3, y4, ⟨y5, y7, y8⟩, y6⟩ := HF.out W hW
      go_simp
      first | exact rfl | exact ⟨rfl, hW⟩
     simp only [Act.put, List.setIfInBounds_toArray, List.set_cons_succ, List.set_cons_zero]
     apply Chain.val
     ·rfl
     ·intro W hW
      obtain ⟨y0, y1, y2, y3, y4, ⟨y5, y7, y8⟩, y6⟩ := HF.out W hW
      go_simp
      first | exact rfl | exact ⟨rfl, hW⟩
     simp only [Act.put, List.setIfInBounds_toArray, List.set_cons_succ, List.set_cons_zero]
     apply Chain.val
     ·rfl
     ·intro W hW
      obtain ⟨y0, y1, y2, y3, y4, ⟨y5, y7, y8⟩, y6⟩ := HF.out W hW
      go_simp
      first | exact rfl | exact ⟨rfl, hW⟩
     simp only [Act.put, List.setIfInBounds_toArray, List.set_cons_succ, List.set_cons_zero]
     apply Chain.val
     ·rfl
     ·intro W hW
      obtain ⟨y0, y1, y2, y3, y4, ⟨y5, y7, y8⟩, y6⟩ := HF.out W hW
      go_simp
      first | exact rfl | exact ⟨rfl, hW⟩
     simp only [Act.put, List.setIfInBounds_toArray, List.set_cons_succ, List.set_cons_zero]
     apply Chain.val
     ·rfl
     ·intro W hW
      obtain ⟨y0, y1, y2, y3, y4, ⟨y5, y7, y8⟩, y6⟩ := HF.out W hW
      go_simp
      first | exact rfl | exact ⟨rfl, hW⟩
     simp only [Act.put, List.setIfInBounds_toArray, List.set_cons_succ, List.set_cons_zero]
     apply Chain.val
     ·rfl
     ·intro W hW
      obtain ⟨y0, y1, y2, y3, y4, ⟨y5, y7, y8⟩, y6⟩ := HF.out W hW
      go_simp
      first | exact rfl | exact ⟨rfl, hW⟩
     simp only [Act.put, List.setIfInBounds_toArray, List.set_cons_succ, List.set_cons_zero]
     apply Chain.val
     ·rfl
     ·intro W hW
      obtain ⟨y0, y1, y2, y3, y4, ⟨y5, y7, y8⟩, y6⟩ := HF.out W hW
      go_simp
      exact (H47.out W hW).mono fun e w' ⟨he, hb⟩ => ⟨he, hW.below hb⟩
     simp only [Act.put, List.setIfInBounds_toArray, List.set_cons_succ, List.set_cons_zero]
     apply Chain.val
     ·rfl
     ·intro W hW
      obtain ⟨y0, y1, y2, y3, y4, ⟨y5, y7, y8⟩, y6⟩ := HF.out W hW
      go_simp
      first | exact rfl | exact ⟨rfl, hW⟩
     simp only [Act.put, List.setIfInBounds_toArray, List.set_cons_succ, List.set_cons_zero]
     apply Chain.val
     ·rfl
     ·intro W hW
      obtain ⟨y0, y1, y2, y3, y4, ⟨y5, y7, y8⟩, y6⟩ := HF.out W hW
      go_simp
      first | exact rfl | exact ⟨rfl, hW⟩
     simp only [Act.put, List.setIfInBounds_toArray, List.set_cons_succ, List.set_cons_zero]
     apply Chain.val
     ·rfl
     ·intro W hW
      obtain ⟨y0, y1, y2, y3, y4, ⟨y5, y7, y8⟩, y6⟩ := HF.out W hW
      go_simp
      first | exact rfl | exact ⟨rfl, hW⟩
     simp only [Act.put, List.setIfInBounds_toArray, List.set_cons_succ, List.set_cons_zero]
     refine Chain.nil ?_
     intro W hW
     have HW := Aside0.mk hW
     clear hW
     go_wp2
     go_ret
     exact ⟨by unfold firesW; rw [H1.out, H2.out, H3.out, H4.out]; rfl, HW.out.2⟩
end
end Go.Proofs.YtlhkeohcickiaaaGreatDoor.E
namespace Go.Proofs.YtlhkeohcickiaaaGreatDoor.Prot
variable {α : Type} [DecidableEq α] [Inhabited α]
instance : Inhabited (Cl α) := ⟨⟨default, 0, 0, [], [], default⟩⟩
def at_ (book : List (Cl α)) (i : Nat) : Cl α := book.getD i default
def thens (book : List (Cl α)) (order : List Nat) : List α := order.map fun i => (at_ book i).thn
def heldOf (book : List (Cl α)) (facts : List α) (order : List Nat) : List α := facts ++ thens book order
def standsB (ed : Int) (c : Cl α) : Bool := decide (c.lo ≤ ed) && decide (ed ≤ c.hi)
def firesB (ed : Int) (held : List α) (c : Cl α) : Bool := standsB ed c && (c.ifs.all (held.contains ·) && !(c.unl.any (held.contains ·)))
theorem firesB_iff {ed : Int} {held : List α} {c : Cl α} : firesB ed held c = true ↔ standsB ed c = true ∧ (∀ f ∈ c.ifs, f ∈ held) ∧ ∀ f ∈ c.unl, f ∉ held := by
 simp [firesB, List.all_eq_true, List.any_eq_false]
def roundP (lv : α → Nat) (ed : Int) (s : Nat) (held : List α) (c : Cl α) : Bool := decide (lv c.thn = s) && (firesB ed held c && !held.contains c.thn)
def roundL (lv : α → Nat) (ed : Int) (s : Nat) (held : List α) (book : List (Cl α)) : List Nat := (List.range book.length).filter fun i => roundP lv ed s held (at_ book i)
def addOne (book : List (Cl α)) (facts : List α) (order : List Nat) (i : Nat) : List Nat := if (heldOf book facts order).contains (at_ book i).thn then order else order ++ [i]
def addL (book : List (Cl α)) (facts : List α) (l : List Nat) (order : List Nat) : List Nat := l.foldl (addOne book facts) order
def mkLevel (lv : α → Nat) (ed : Int) (book : List (Cl α)) (facts : List α) (s : Nat) : Nat → List Nat → Option (List Nat)
 | 0, _ => none
 | k + 1, order =>
  let l := roundL lv ed s (heldOf book facts order) book
  if l = [] then some order else mkLevel lv ed book facts s k (addL book facts l order)
def mkLevels (lv : α → Nat) (ed : Int) (book : List (Cl α)) (facts : List α) (fuel : Nat) : Nat → Nat → List Nat → Option (List Nat)
 | 0, _, order => some order
 | n + 1, s, order => (mkLevel lv ed book facts s fuel order).bind fun order' => mkLevels lv ed book facts fuel n (s + 1) order'
structure Good (lv : α → Nat) (ed : Int) (book : List (Cl α)) (facts : List α) (order : List Nat) : Prop where
 lt : ∀ i ∈ order, i < book.length
 fresh : ∀ t ∈ thens book order, t ∉ facts
 nodup : (thens book order).Nodup
 came : ∀ pre i post, order = pre ++ i :: post → firesB ed (heldOf book facts pre) (at_ book i) = true
 lev : ∀ pre i post, order = pre ++ i :: post → ∀ j ∈ post, lv (at_ book i).thn ≤ lv (at_ book j).thn
theorem thens_append (book : List (Cl α)) (a b : List Nat) : thens book (a ++ b) = thens book a ++ thens book b := by simp [thens]
theorem mem_heldOf {book : List (Cl α)} {facts : List α} {order : List Nat} {x : α} : x ∈ heldOf book facts order ↔ x ∈ facts ∨ ∃ i ∈ order, (at_ book i).thn = x := by
 simp [heldOf, thens]
theorem heldOf_append (book : List (Cl α)) (facts : List α) (a b : List Nat) : heldOf book facts (a ++ b) = heldOf book facts a ++ thens book b := by simp [heldOf, thens]
theorem mem_roundL {lv : α → Nat} {ed : Int} {s : Nat} {held : List α} {book : List (Cl α)} {i : Nat} :
  i ∈ roundL lv ed s held book ↔ i < book.length ∧ lv (at_ book i).thn = s ∧ firesB ed held (at_ book i) = true ∧ (at_ book i).thn ∉ held := by
 simp [roundL, roundP]
theorem length_le_of_nodup_range {l : List Nat} {n : Nat} (hn : l.Nodup) (h : ∀ i ∈ l, i < n) : l.length ≤ n := by
 induction n generalizing l with
 | zero =>
  cases l with
  | nil => simp
  | cons a l => exact absurd (h a (by simp)) (by omega)
 | succ n ih =>
  have h1 : (l.erase n).length ≤ n := ih (hn.erase _) (fun i hi => by
   have h2 := h i (List.mem_of_mem_erase hi)
   have h3 : i ≠ n := by rintro rfl; exact (List.Nodup.not_mem_erase hn) hi
   omega)
  have h2 := List.length_erase (a := n) (l := l)
  split at h2 <;> omega
theorem nodup_of_map {β γ : Type} (f : β → γ) {l : List β} (h : (l.map f).Nodup) : l.Nodup := by
 induction l with
 | nil => simp
 | cons a l ih =>
  simp only [List.map_cons, List.nodup_cons, List.mem_map, not_exists, not_and] at h
  exact List.nodup_cons.2 ⟨fun ha => h.1 a ha rfl, ih h.2⟩
theorem Good.length_le {lv : α → Nat} {ed : Int} {book : List (Cl α)} {facts : List α} {order : List Nat} (h : Good lv ed book facts order) : order.length ≤ book.length := by
 refine length_le_of_nodup_range ?_ h.lt
 have := h.nodup
 unfold thens at this
 exact nodup_of_map _ this
theorem firesB_mono {ed : Int} {held held' : List α} {c : Cl α} (h : firesB ed held c = true) (hs : ∀ x ∈ held, x ∈ held') (hu : ∀ f ∈ c.unl, f ∉ held') : firesB ed held' c = true := by
 rw [firesB_iff] at h ⊢
 exact ⟨h.1, fun f hf => hs f (h.2.1 f hf), hu⟩
theorem Good.snoc {lv : α → Nat} {ed : Int} {book : List (Cl α)} {facts : List α} {order : List Nat} {i : Nat} (h : Good lv ed book facts order) (hi : i < book.length)
  (hn : (at_ book i).thn ∉ heldOf book facts order) (hf : firesB ed (heldOf book facts order) (at_ book i) = true) (hl : ∀ j ∈ order, lv (at_ book j).thn ≤ lv (at_ book i).thn) :
  Good lv ed book facts (order ++ [i]) := by
 rw [mem_heldOf] at hn
 constructor
 ·intro j hj
  rcases List.mem_append.1 hj with hj | hj
  ·exact h.lt j hj
  ·simp at hj; subst hj; exact hi
 ·intro t ht
  rw [thens_append] at ht
  rcases List.mem_append.1 ht with ht | ht
  ·exact h.fresh t ht
  ·simp [thens] at ht; subst ht; exact fun h' => hn (.inl h')
 ·rw [thens_append, List.nodup_append]
  refine ⟨h.nodup, by simp [thens], ?_⟩
  intro a ha b hb e
  subst e
  simp [thens] at hb
  subst hb
  simp [thens] at ha
  obtain ⟨j, hj, e⟩ := ha
  exact hn (.inr ⟨j, hj, e⟩)
 ·intro pre j post e
  rcases List.append_eq_append_iff.1 e with ⟨az, h1, h2⟩ | ⟨bs, h1, h2⟩
  ·cases az with
   | nil =>
    simp at h1 h2
    obtain ⟨rfl, rfl⟩ := h2
    rw [h1]; exact hf
   | cons a az =>
    simp at h2
  ·cases bs with
   | nil =>
    simp at h1 h2
    obtain ⟨rfl, rfl⟩ := h2
    rw [← h1]; exact hf
   | cons b bs =>
    simp at h2
    obtain ⟨rfl, h2⟩ := h2
    exact h.came pre j bs h1
 ·intro pre j post e k hk
  rcases List.append_eq_append_iff.1 e with ⟨az, h1, h2⟩ | ⟨bs, h1, h2⟩
  ·cases az with
   | nil =>
    simp at h1 h2
    obtain ⟨rfl, rfl⟩ := h2
    cases hk
   | cons a az => simp at h2
  ·cases bs with
   | nil =>
    simp at h1 h2
    obtain ⟨rfl, rfl⟩ := h2
    cases hk
   | cons b bs =>
    simp at h2
    obtain ⟨rfl, h2⟩ := h2
    rw [h2] at hk
    rcases List.mem_append.1 hk with hk | hk
    ·exact h.lev pre j bs h1 k hk
    ·simp at hk; subst hk
     exact hl j (by rw [h1]; simp)
theorem addL_good {lv : α → Nat} {ed : Int} {book : List (Cl α)} {facts : List α} (hfit : Fits lv book) {s : Nat} {start : List Nat} :
  ∀ (l : List Nat) (order : List Nat), Good lv ed book facts order → (∃ more, order = start ++ more ∧ ∀ i ∈ more, lv (at_ book i).thn = s) → (∀ j ∈ order, lv (at_ book j).thn ≤ s) →
  (∀ i ∈ l, i < book.length ∧ lv (at_ book i).thn = s ∧ firesB ed (heldOf book facts start) (at_ book i) = true) →
  Good lv ed book facts (addL book facts l order) ∧ (∃ more, addL book facts l order = start ++ more ∧ ∀ i ∈ more, lv (at_ book i).thn = s) ∧ (∀ j ∈ addL book facts l order, lv (at_ book j).thn ≤ s) ∧
   (∃ more, addL book facts l order = order ++ more) := by
 intro l
 induction l with
 | nil => intro order h1 h2 h3 _; exact ⟨h1, h2, h3, [], by simp [addL]⟩
 | cons i l ih =>
  intro order h1 h2 h3 h4
  obtain ⟨hi, hs, hf⟩ := h4 i (by simp)
  have h4' : ∀ i ∈ l, i < book.length ∧ lv (at_ book i).thn = s ∧ firesB ed (heldOf book facts start) (at_ book i) = true := fun j hj => h4 j (by simp [hj])
  have e : addL book facts (i :: l) order = addL book facts l (addOne book facts order i) := rfl
  rw [e]
  by_cases hc : (heldOf book facts order).contains (at_ book i).thn = true
  ·have : addOne book facts order i = order := by unfold addOne; rw [if_pos hc]
   rw [this]
   exact ih order h1 h2 h3 h4'
  ·have ho : addOne book facts order i = order ++ [i] := by unfold addOne; rw [if_neg hc]
   rw [ho]
   have hn : (at_ book i).thn ∉ heldOf book facts order := by simpa using hc
   obtain ⟨more, hm, hml⟩ := h2
   have hfire : firesB ed (heldOf book facts order) (at_ book i) = true := by
    refine firesB_mono hf (fun x hx => ?_) (fun u hu hx => ?_)
    ·rw [hm, heldOf_append]; exact List.mem_append.2 (.inl hx)
    ·rw [hm, heldOf_append] at hx
     rcases List.mem_append.1 hx with hx | hx
     ·exact ((firesB_iff.1 hf).2.2 u hu) hx
     ·simp [thens] at hx
      obtain ⟨j, hj, rfl⟩ := hx
      have hmem : at_ book i ∈ book := by
       unfold at_; rw [List.getD_eq_getElem?_getD, List.getElem?_eq_getElem hi]; simp
      have := (hfit _ hmem).2 _ hu
      have := hml j hj
      omega
   obtain ⟨r1, r2, r3, r4⟩ := ih (order ++ [i]) (h1.snoc hi hn hfire (fun j hj => by have := h3 j hj; omega))
    ⟨more ++ [i], by rw [hm]; simp, fun j hj => by
     rcases List.mem_append.1 hj with hj | hj
     ·exact hml j hj
     ·simp at hj; subst hj; exact hs⟩
    (fun j hj => by
     rcases List.mem_append.1 hj with hj | hj
     ·exact h3 j hj
     ·simp at hj; subst hj; omega) h4'
   refine ⟨r1, r2, r3, ?_⟩
   obtain ⟨m2, hm2⟩ := r4
   exact ⟨i :: m2, by rw [hm2]; simp⟩
theorem addL_longer {book : List (Cl α)} {facts : List α} {l order : List Nat} (hl : l ≠ []) (hn : ∀ i ∈ l, (at_ book i).thn ∉ heldOf book facts order) : order.length < (addL book facts l order).length := by
 cases l with
 | nil => exact absurd rfl hl
 | cons i l =>
  have h1 : addOne book facts order i = order ++ [i] := by
   unfold addOne
   rw [if_neg]
   have := hn i (by simp)
   simpa using this
  have h2 : ∀ (l : List Nat) (o : List Nat), o.length ≤ (addL book facts l o).length := by
   intro l
   induction l with
   | nil => intro o; exact Nat.le_refl _
   | cons j l ih =>
    intro o
    refine Nat.le_trans ?_ (ih (addOne book facts o j))
    unfold addOne
    split <;> simp
  have h3 := h2 l (order ++ [i])
  have e : addL book facts (i :: l) order = addL book facts l (order ++ [i]) := by
   show addL book facts l (addOne book facts order i) = _
   rw [h1]
  rw [e]
  simp at h3
  omega
def Shut (lv : α → Nat) (ed : Int) (book : List (Cl α)) (facts : List α) (s : Nat) (order : List Nat) : Prop := roundL lv ed s (heldOf book facts order) book = []
theorem mkLevel_good {lv : α → Nat} {ed : Int} {book : List (Cl α)} {facts : List α} (hfit : Fits lv book) {s : Nat} :
  ∀ (k : Nat) (order : List Nat), Good lv ed book facts order → (∀ j ∈ order, lv (at_ book j).thn ≤ s) → book.length < order.length + k →
  ∃ order', mkLevel lv ed book facts s k order = some order' ∧ Good lv ed book facts order' ∧ (∀ j ∈ order', lv (at_ book j).thn ≤ s) ∧ Shut lv ed book facts s order' ∧
   ∃ more, order' = order ++ more ∧ ∀ i ∈ more, lv (at_ book i).thn = s := by
 intro k
 induction k with
 | zero => intro order h1 _ h3; have := h1.length_le; omega
 | succ k ih =>
  intro order h1 h2 h3
  unfold mkLevel
  by_cases he : roundL lv ed s (heldOf book facts order) book = []
  ·exact ⟨order, by simp [he], h1, h2, he, [], by simp, by simp⟩
  ·simp only [he, if_false]
   have hr : ∀ i ∈ roundL lv ed s (heldOf book facts order) book, i < book.length ∧ lv (at_ book i).thn = s ∧ firesB ed (heldOf book facts order) (at_ book i) = true := by
    intro i hi; rw [mem_roundL] at hi; exact ⟨hi.1, hi.2.1, hi.2.2.1⟩
   obtain ⟨g1, g2, g3, _⟩ := addL_good hfit (start := order) (roundL lv ed s (heldOf book facts order) book) order h1 ⟨[], by simp, by simp⟩ h2 hr
   have hlen := addL_longer (book := book) (facts := facts) he (fun i hi => (mem_roundL.1 hi).2.2.2)
   obtain ⟨o', r1, r2, r3, r4, m', r5, r6⟩ := ih _ g1 g3 (by omega)
   obtain ⟨m, hm, hml⟩ := g2
   refine ⟨o', r1, r2, r3, r4, m ++ m', by rw [r5, hm]; simp, fun i hi => ?_⟩
   rcases List.mem_append.1 hi with hi | hi
   ·exact hml i hi
   ·exact r6 i hi
theorem Shut.later {lv : α → Nat} {ed : Int} {book : List (Cl α)} {facts : List α} (hfit : Fits lv book) {s : Nat} {order more : List Nat} (h : Shut lv ed book facts s order)
  (hm : ∀ i ∈ more, s < lv (at_ book i).thn) : Shut lv ed book facts s (order ++ more) := by
 unfold Shut at *
 rw [List.eq_nil_iff_forall_not_mem] at h ⊢
 intro i hi
 rw [mem_roundL] at hi
 obtain ⟨h1, h2, h3, h4⟩ := hi
 have hmem : at_ book i ∈ book := by
  unfold at_; rw [List.getD_eq_getElem?_getD, List.getElem?_eq_getElem h1]; simp
 have hff := hfit _ hmem
 refine h i (mem_roundL.2 ⟨h1, h2, ?_, ?_⟩)
 ·rw [firesB_iff] at h3 ⊢
  refine ⟨h3.1, fun f hf => ?_, fun f hf hx => h3.2.2 f hf ?_⟩
  ·have hx := h3.2.1 f hf
   rw [heldOf_append] at hx
   rcases List.mem_append.1 hx with hx | hx
   ·exact hx
   ·simp [thens] at hx
    obtain ⟨j, hj, rfl⟩ := hx
    have := hff.1 _ hf
    have := hm j hj
    omega
  ·rw [heldOf_append]; exact List.mem_append.2 (.inl hx)
 ·intro hx; exact h4 (by rw [heldOf_append]; exact List.mem_append.2 (.inl hx))
theorem mkLevels_good {lv : α → Nat} {ed : Int} {book : List (Cl α)} {facts : List α} (hfit : Fits lv book) (fuel : Nat) (hfuel : book.length < fuel) :
  ∀ (n s : Nat) (order : List Nat), Good lv ed book facts order → (∀ j ∈ order, lv (at_ book j).thn < s) → (∀ t, t < s → Shut lv ed book facts t order) →
  ∃ order', mkLevels lv ed book facts fuel n s order = some order' ∧ Good lv ed book facts order' ∧ (∀ j ∈ order', lv (at_ book j).thn < s + n) ∧ (∀ t, t < s + n → Shut lv ed book facts t order') ∧ ∃ more, order' = order ++ more := by
 intro n
 induction n with
 | zero => intro s order h1 h2 h3; exact ⟨order, rfl, h1, h2, h3, [], by simp⟩
 | succ n ih =>
  intro s order h1 h2 h3
  obtain ⟨o1, r1, r2, r3, r4, m, r5, r6⟩ := mkLevel_good (ed := ed) (facts := facts) hfit (s := s) fuel order h1 (fun j hj => by have := h2 j hj; omega) (by omega)
  obtain ⟨o2, q1, q2, q3, q4, m2, q5⟩ := ih (s + 1) o1 r2 (fun j hj => by have := r3 j hj; omega) (fun t ht => by
   by_cases e : t = s
   ·subst e; exact r4
   ·rw [r5]; exact (h3 t (by omega)).later hfit (fun i hi => by have := r6 i hi; omega))
  refine ⟨o2, ?_, q2, fun j hj => by have := q3 j hj; omega, fun t ht => q4 t (by omega), m ++ m2, by rw [q5, r5]; simp⟩
  unfold mkLevels
  rw [r1]; exact q1
def made (lv : α → Nat) (top : Nat) (ed : Int) (book : List (Cl α)) (facts : List α) : List Nat := (mkLevels lv ed book facts (book.length + 1) (top + 1) 0 []).getD []
theorem Good.nil (lv : α → Nat) (ed : Int) (book : List (Cl α)) (facts : List α) : Good lv ed book facts [] := by
 constructor
 ·simp
 ·simp [thens]
 ·simp [thens]
 ·intro pre i post e; simp at e
 ·intro pre i post e; simp at e
theorem made_spec {lv : α → Nat} {top : Nat} {ed : Int} {book : List (Cl α)} (facts : List α) (hfit : Fits lv book) (htop : ∀ c ∈ book, lv c.thn ≤ top) :
  mkLevels lv ed book facts (book.length + 1) (top + 1) 0 [] = some (made lv top ed book facts) ∧ Good lv ed book facts (made lv top ed book facts) ∧ ∀ t, Shut lv ed book facts t (made lv top ed book facts) := by
 obtain ⟨o, r1, r2, _, r4, _⟩ := mkLevels_good (ed := ed) (facts := facts) hfit (book.length + 1) (by omega) (top + 1) 0 [] (Good.nil ..) (by simp) (by intro t ht; omega)
 have e : made lv top ed book facts = o := by unfold made; rw [r1]; rfl
 rw [e]
 refine ⟨r1, r2, fun t => ?_⟩
 by_cases ht : t < 0 + (top + 1)
 ·exact r4 t ht
 ·unfold Shut
  rw [List.eq_nil_iff_forall_not_mem]
  intro i hi
  rw [mem_roundL] at hi
  have hmem : at_ book i ∈ book := by
   unfold at_; rw [List.getD_eq_getElem?_getD, List.getElem?_eq_getElem hi.1]; simp
  have := htop _ hmem
  omega
end Go.Proofs.YtlhkeohcickiaaaGreatDoor.Prot
namespace Go.Proofs.YtlhkeohcickiaaaGreatDoor.E
open Go.RowKit Go.Proofs.YtlhkeohcickiaaaGreatDoor.H
section
theorem cell_same {w w' : World} {b o : Nat} (h : w'.heap[b]? = w.heap[b]?) : w'.cell? ⟨b, o, none⟩ = w.cell? ⟨b, o, none⟩ := by unfold World.cell?; rw [h]
theorem frozen_same {w w' : World} {b o : Nat} (h : w'.heap[b]? = w.heap[b]?) : w'.frozen? ⟨b, o, none⟩ = w.frozen? ⟨b, o, none⟩ := by unfold World.frozen?; rw [h]
def Caught (B : Nat) (a b : Int) (w w' : World) : Prop := ∃ W : World, Below w.heap.size w W ∧ w' = (W.setCell ⟨B, 0, none⟩ (.int .i64 a)).setCell ⟨B + 1, 0, none⟩ (.int .i64 b)
set_option maxRecDepth 100000 in
set_option maxHeartbeats 1000000 in
theorem catch_panicking (B : Nat) (x y a b : Int) (older : List PanicEntry) (w : World) (hc : w.heap[B]? = some (.cells #[.int .i64 x] 3 (0, 0))) (hd : w.heap[B + 1]? = some (.cells #[.int .i64 y] 28 (0, 0))) :
  CallsD Tryz.prog 69 #[.pointer (some ⟨B, 0, none⟩), .pointer (some ⟨B + 1, 0, none⟩)] (.panicking ({ v := .iface 101 (.agg #[.int .i64 a, .int .i64 b]), recovered := false } :: older)) w fun e u' w' =>
   e = .returned (.tuple #[]) ∧ u' = .panicking ({ v := .iface 101 (.agg #[.int .i64 a, .int .i64 b]), recovered := true } :: older) ∧ Caught B a b w w' := by
 have c1 : w.cell? ⟨B, 0, none⟩ = some (.int .i64 x) := by unfold World.cell?; rw [hc]; rfl
 have c2 : w.cell? ⟨B + 1, 0, none⟩ = some (.int .i64 y) := by unfold World.cell?; rw [hd]; rfl
 have f1 : w.frozen? ⟨B, 0, none⟩ = false := by unfold World.frozen?; rw [hc]; rfl
 have f2 : w.frozen? ⟨B + 1, 0, none⟩ = false := by unfold World.frozen?; rw [hd]; rfl
 have hlt : B + 1 < w.heap.size := (Array.getElem?_eq_some_iff.1 hd).1
 clear hc hd
 refine callsD_of_wpS Tryz.func69 rfl fun c₀ cs hu => ?_
 apply wpS_seq
 apply wpS_region
 simp [wpOpsS, go_sem, recoverD, hu, Tryz.ntmps69, Exit.thenS]
 refine wpS_of_wp ?_
 have hta : ∀ (W : World), (Instr.typeAssert (.iface 101 (.agg #[.int .i64 a, .int .i64 b])) 20 101 true).run Tryz.prog W = .ok (.tuple #[.agg #[.int .i64 a, .int .i64 b], .bool true]) W := fun W => by rfl
 refine Code.wp_mono (Q := fun e a' w' => e = .normal ∧ a'.defers = [] ∧ Caught B a b w w') ?_ ?_
 ·rintro e a' w' ⟨rfl, hd', hC⟩
  refine ⟨hd', _, rfl, .tuple #[], ?_, rfl, rfl, hC⟩
  simp [results, Tryz.f69, go_sem]
 clear hu
 generalize hT : (#[Value.pointer (some { block := B, off := 0 }), Value.pointer (some { block := B + 1, off := 0 })] ++ _ : Array Value) = T
 have hT' : T = #[Value.pointer (some { block := B, off := 0 }), Value.pointer (some { block := B + 1, off := 0 }), .iface 101 (.agg #[.int .i64 a, .int .i64 b]), undef, undef, .iface 101 (.agg #[.int .i64 a, .int .i64 b]), undef, undef, undef, undef, undef, undef, undef, undef, undef, undef, undef, undef, undef, undef] := by rw [← hT]; simp [Array.replicate]
 subst hT'
 clear hT
 go_wp2_with fail
 have hal : Below w.heap.size w (w.alloc (.cells #[.int .i64 a, .int .i64 b] 101)) := (Below.refl _ w).alloc (Nat.le_refl _) _
 have s0 : (w.alloc (.cells #[.int .i64 a, .int .i64 b] 101)).cell? ⟨w.heap.size, 0, none⟩ = some (.int .i64 a) := by simp [go_sem]
 have s1 : (w.alloc (.cells #[.int .i64 a, .int .i64 b] 101)).cell? ⟨w.heap.size, 1, none⟩ = some (.int .i64 b) := by simp [go_sem]
 have z0 : (w.alloc (.cells #[.int .i64 a, .int .i64 b] 101)).cell? ⟨B, 0, none⟩ = some (.int .i64 x) := by rw [← c1]; exact cell_same (hal.block B (by omega))
 have z1 : (w.alloc (.cells #[.int .i64 a, .int .i64 b] 101)).cell? ⟨B + 1, 0, none⟩ = some (.int .i64 y) := by rw [← c2]; exact cell_same (hal.block (B + 1) hlt)
 have z2 : (w.alloc (.cells #[.int .i64 a, .int .i64 b] 101)).frozen? ⟨B, 0, none⟩ = false := by rw [← f1]; exact frozen_same (hal.block B (by omega))
 have z3 : (w.alloc (.cells #[.int .i64 a, .int .i64 b] 101)).frozen? ⟨B + 1, 0, none⟩ = false := by rw [← f2]; exact frozen_same (hal.block (B + 1) hlt)
 have hb : B < w.heap.size := by omega
 generalize w.alloc (.cells #[.int .i64 a, .int .i64 b] 101) = W at hal s0 s1 z0 z1 z2 z3 ⊢
 have t0 : ∀ u, (W.setCell ⟨B, 0, none⟩ u).cell? ⟨w.heap.size, 0, none⟩ = some (.int .i64 a) := fun u => by rw [← s0]; exact cell_same (Below.heap_setCell W _ u _ (by show w.heap.size ≠ B; omega))
 have t1 : ∀ u, (W.setCell ⟨B, 0, none⟩ u).cell? ⟨w.heap.size, 1, none⟩ = some (.int .i64 b) := fun u => by rw [← s1]; exact cell_same (Below.heap_setCell W _ u _ (by show w.heap.size ≠ B; omega))
 have t2 : ∀ u, (W.setCell ⟨B, 0, none⟩ u).cell? ⟨B + 1, 0, none⟩ = some (.int .i64 y) := fun u => by rw [← z1]; exact cell_same (Below.heap_setCell W _ u _ (by show B + 1 ≠ B; omega))
 have t3 : ∀ u, (W.setCell ⟨B, 0, none⟩ u).frozen? ⟨B + 1, 0, none⟩ = false := fun u => by rw [← z3]; exact frozen_same (Below.heap_setCell W _ u _ (by show B + 1 ≠ B; omega))
 go_region
 exact ⟨rfl, rfl, W.drew, ⟨hal.os, hal.tape, hal.output, hal.size, hal.block⟩, rfl⟩
theorem catch_idle (p q : Addr) (w : World) :
  CallsD Tryz.prog 69 #[.pointer (some p), .pointer (some q)] .returning w fun e u' w' => e = .returned (.tuple #[]) ∧ u' = .returning ∧ w' = w := by
 refine callsD_of_wpS Tryz.func69 rfl fun c₀ cs hu => ?_
 apply wpS_seq
 apply wpS_region
 simp [wpOpsS, go_sem, recoverD, hu, Tryz.ntmps69, Exit.thenS]
 refine wpS_of_wp ?_
 refine Code.wp_mono (Q := fun e a' w' => e = .normal ∧ a'.defers = [] ∧ w' = w) ?_ ?_
 ·rintro e a' w' ⟨rfl, hd', rfl⟩
  refine ⟨hd', .returning, ?_, .tuple #[], ?_, rfl, rfl, rfl⟩
  ·cases c₀; simp_all
  ·simp [results, Tryz.f69, go_sem]
 clear hu
 generalize hT : (#[Value.pointer (some p), Value.pointer (some q)] ++ _ : Array Value) = T
 have hT' : T = #[Value.pointer (some p), Value.pointer (some q), Value.nilIface, undef, undef, Value.nilIface, undef, undef, undef, undef, undef, undef, undef, undef, undef, undef, undef, undef, undef, undef] := by rw [← hT]; simp [Array.replicate]
 subst hT'
 clear hT
 go_wp2
def Asked (B : Nat) (w1 : World) (Q : Option (Int × Int) → World → Prop) (e : Ending) (w2 : World) : Prop :=
 ∃ o : Option (Int × Int), (match o with | none => e = .returned (.tuple #[]) | some (a, b) => e = refused a b) ∧ w2.heap[B]? = w1.heap[B]? ∧ w2.heap[B + 1]? = w1.heap[B + 1]? ∧ Q o w2
structure Settled (B : Nat) (w2 w' : World) : Prop where
 os : w'.os = w2.os
 tape : w'.tape = w2.tape
 output : w'.output = w2.output
 size : w2.heap.size ≤ w'.heap.size
 block : ∀ k, k < w2.heap.size → k ≠ B → k ≠ B + 1 → w'.heap[k]? = w2.heap[k]?
theorem settled_two (w : World) (B : Nat) (u v : Value) : Settled B w ((w.setCell ⟨B, 0, none⟩ u).setCell ⟨B + 1, 0, none⟩ v) :=
 ⟨rfl, rfl, rfl, by simp [World.setCell], fun k _ h0 h1 => by rw [Below.heap_setCell _ _ _ _ h1, Below.heap_setCell _ _ _ _ h0]⟩
theorem settled_then {B : Nat} {w W w' : World} (h : Below w.heap.size w W) (k : Settled B W w') : Settled B w w' :=
 ⟨k.os.trans h.os, k.tape.trans h.tape, k.output.trans h.output, Nat.le_trans h.size k.size, fun i hi h0 h1 => (k.block i (Nat.lt_of_lt_of_le hi h.size) h0 h1).trans (h.block i hi)⟩
set_option maxRecDepth 100000 in
set_option maxHeartbeats 2000000 in
theorem answered_calls (g : Nat) (cap : Array Value) (w : World) (Q : Option (Int × Int) → World → Prop)
  (eg : ∀ args w, (callFunc g args).run Tryz.prog w = .ok (.enter g args) w)
  (hq : ∀ w1, Below w.heap.size w w1 → w.heap.size + 2 ≤ w1.heap.size → Calls Tryz.prog g cap w1 (Asked w.heap.size w1 Q)) :
  Calls Tryz.prog 37 #[.func (.func g) #[] cap] w fun e w' => ∃ o w2, Q o w2 ∧ Settled w.heap.size w2 w' ∧ e = .returned (.tuple #[.int .i64 (o.getD (-1, 0)).1, .int .i64 (o.getD (-1, 0)).2]) := by
 have hmf : ∀ (fn : Fn) (first cap : Array Value) (w : World), (Instr.makeFunc fn first cap).run Tryz.prog w = .ok (.func fn first cap) w := fun _ _ _ _ => rfl
 go_enter_defers Tryz.func37, Tryz.ntmps37
 go_wp2_with fail
 have b0 : ((w.alloc (.cells #[.int .i64 0] 3)).alloc (.cells #[.int .i64 0] 28)).heap[w.heap.size]? = some (.cells #[.int .i64 0] 3 (0, 0)) := by
  show ((w.heap.push _).push _)[w.heap.size]? = _
  rw [Array.getElem?_push_lt (by simp), Array.getElem_push_eq]
 have b1 : ((w.alloc (.cells #[.int .i64 0] 3)).alloc (.cells #[.int .i64 0] 28)).heap[w.heap.size + 1]? = some (.cells #[.int .i64 0] 28 (0, 0)) := by
  show ((w.heap.push _).push _)[w.heap.size + 1]? = _
  rw [show w.heap.size + 1 = (w.heap.push (Obj.cells #[.int .i64 0] 3 (0, 0))).size from (Array.size_push ..).symm]
  exact Array.getElem?_push_size
 have hs1 : w.heap.size < (w.alloc (.cells #[.int .i64 0] 3)).heap.size := by show w.heap.size < (w.heap.push _).size; rw [Array.size_push]; omega
 have hs2 : ((w.alloc (.cells #[.int .i64 0] 3)).alloc (.cells #[.int .i64 0] 28)).heap.size = w.heap.size + 2 := by show ((w.heap.push _).push _).size = _; rw [Array.size_push, Array.size_push]
 refine (hq _ (((Below.refl _ w).alloc (Nat.le_refl _) _).alloc (Nat.le_of_lt hs1) _) (Nat.le_of_eq hs2.symm)).mono ?_
 rintro e w2 ⟨o, ho, h0, h1, hQ⟩
 rw [b0] at h0
 rw [b1] at h1
 clear b0 b1 hq
 have hlt : w.heap.size + 1 < w2.heap.size := (Array.getElem?_eq_some_iff.1 h1).1
 cases o with
 | none =>
  cases ho
  have c0 : w2.cell? ⟨w.heap.size, 0, none⟩ = some (.int .i64 0) := by unfold World.cell?; rw [h0]; rfl
  have f0 : w2.frozen? ⟨w.heap.size, 0, none⟩ = false := by unfold World.frozen?; rw [h0]; rfl
  have c1 : ∀ u, (w2.setCell ⟨w.heap.size, 0, none⟩ u).cell? ⟨w.heap.size + 1, 0, none⟩ = some (.int .i64 0) := fun u => by
   unfold World.cell?; rw [Below.heap_setCell _ _ _ _ (by show w.heap.size + 1 ≠ w.heap.size; omega), h1]; rfl
  have f1 : ∀ u, (w2.setCell ⟨w.heap.size, 0, none⟩ u).frozen? ⟨w.heap.size + 1, 0, none⟩ = false := fun u => by
   unfold World.frozen?; rw [Below.heap_setCell _ _ _ _ (by show w.heap.size + 1 ≠ w.heap.size; omega), h1]; rfl
  dsimp only
  go_wp2
  refine leaves_cons (f := 69) (args := #[.pointer (some ⟨w.heap.size, 0, none⟩), .pointer (some ⟨w.heap.size + 1, 0, none⟩)]) (by simp) (by simp [go_sem]) ?_
  refine (catch_idle ⟨w.heap.size, 0, none⟩ ⟨w.heap.size + 1, 0, none⟩ _).mono ?_
  rintro e u' w'' ⟨rfl, rfl, rfl⟩
  have l0 : ((w2.setCell ⟨w.heap.size, 0, none⟩ (.int .i64 (-1))).setCell ⟨w.heap.size + 1, 0, none⟩ (.int .i64 0)).cell? ⟨w.heap.size, 0, none⟩ = some (.int .i64 (-1)) := by
   rw [cell_same (w := w2.setCell ⟨w.heap.size, 0, none⟩ (.int .i64 (-1))) (Below.heap_setCell _ _ _ _ (by show w.heap.size ≠ w.heap.size + 1; omega))]
   exact World.cell?_setCell_same' _ _ _ (by rw [c0]; rfl)
  have l1 : ((w2.setCell ⟨w.heap.size, 0, none⟩ (.int .i64 (-1))).setCell ⟨w.heap.size + 1, 0, none⟩ (.int .i64 0)).cell? ⟨w.heap.size + 1, 0, none⟩ = some (.int .i64 0) :=
   World.cell?_setCell_same' _ _ _ (by rw [c1]; rfl)
  refine ⟨_, ?_, none, w2, hQ, settled_two w2 _ _ _, rfl⟩
  simp [results, Tryz.f37, go_sem, l0, l1]
 | some ab =>
  obtain ⟨a, b⟩ := ab
  cases ho
  refine leaves_cons (f := 69) (args := #[.pointer (some ⟨w.heap.size, 0, none⟩), .pointer (some ⟨w.heap.size + 1, 0, none⟩)]) (by simp) (by simp [go_sem]) ?_
  refine (catch_panicking w.heap.size 0 0 a b [] w2 h0 h1).mono ?_
  rintro e u' w'' ⟨rfl, rfl, W, hW, rfl⟩
  have d0 : W.heap[w.heap.size]? = some (.cells #[.int .i64 0] 3 (0, 0)) := by rw [hW.block _ (by omega)]; exact h0
  have d1 : W.heap[w.heap.size + 1]? = some (.cells #[.int .i64 0] 28 (0, 0)) := by rw [hW.block _ hlt]; exact h1
  have l0 : ((W.setCell ⟨w.heap.size, 0, none⟩ (.int .i64 a)).setCell ⟨w.heap.size + 1, 0, none⟩ (.int .i64 b)).cell? ⟨w.heap.size, 0, none⟩ = some (.int .i64 a) := by
   rw [cell_same (w := W.setCell ⟨w.heap.size, 0, none⟩ (.int .i64 a)) (Below.heap_setCell _ _ _ _ (by show w.heap.size ≠ w.heap.size + 1; omega))]
   exact World.cell?_setCell_same' _ _ _ (by unfold World.cell?; rw [d0]; rfl)
  have l1 : ((W.setCell ⟨w.heap.size, 0, none⟩ (.int .i64 a)).setCell ⟨w.heap.size + 1, 0, none⟩ (.int .i64 b)).cell? ⟨w.heap.size + 1, 0, none⟩ = some (.int .i64 b) :=
   World.cell?_setCell_same' _ _ _ (by unfold World.cell?; rw [Below.heap_setCell _ _ _ _ (by show w.heap.size + 1 ≠ w.heap.size; omega), d1]; rfl)
  refine ⟨_, ?_, some (a, b), w2, hQ, settled_then hW (settled_two W _ _ _), rfl⟩
  simp [results, Tryz.f37, go_sem, l0, l1]
end
end Go.Proofs.YtlhkeohcickiaaaGreatDoor.E
namespace Go.Proofs.YtlhkeohcickiaaaGreatDoor.E
open Go.RowKit Go.Proofs.YtlhkeohcickiaaaGreatDoor.H Go.Proofs.YtlhkeohcickiaaaGreatDoorW.PrintWords Go.Proofs.YtlhkeohcickiaaaGreatDoorW.PrintLast Go.Proofs.YtlhkeohcickiaaaGreatDoorW.PrintMore
section
def Ends (o : Option (Int × Int)) (e : Ending) : Prop := match o with | none => e = .returned (.tuple #[]) | some (a, b) => e = refused a b
def errOf {α : Type} (x : Except (Int × Int) α) : Option (Int × Int) := match x with | .error p => some p | .ok _ => none
structure Laid (w W : World) (os : List Obj) : Prop where
 below : Below w.heap.size w W
 size : W.heap.size = w.heap.size + os.length
 at_ : ∀ i, i < os.length → W.heap[w.heap.size + i]? = os[i]?
theorem Laid.nil (w : World) : Laid w w [] := ⟨Below.refl _ _, rfl, fun i hi => absurd hi (by simp)⟩
theorem Laid.snoc {w W : World} {os : List Obj} (h : Laid w W os) (o : Obj) : Laid w (W.alloc o) (os ++ [o]) := by
 refine ⟨h.below.alloc (by rw [h.size]; omega) o, ?_, fun i hi => ?_⟩
 ·show (W.heap.push o).size = _
  rw [Array.size_push, h.size, List.length_append]; simp; omega
 ·rw [List.length_append] at hi
  simp at hi
  by_cases hl : i < os.length
  ·rw [Below.heap_alloc W o _ (by rw [h.size]; omega), h.at_ i hl, List.getElem?_append_left hl]
  ·have : i = os.length := by omega
   subst this
   show (W.heap.push o)[w.heap.size + os.length]? = _
   rw [← h.size, Array.getElem?_push_size]
   simp
theorem cell_of {W : World} {b : Nat} {v : Value} {t : TypeId} (h : W.heap[b]? = some (.cells #[v] t (0, 0))) : W.cell? ⟨b, 0, none⟩ = some v := by unfold World.cell?; rw [h]; rfl
theorem frozen_of {W : World} {b : Nat} {v : Value} {t : TypeId} (h : W.heap[b]? = some (.cells #[v] t (0, 0))) : W.frozen? ⟨b, 0, none⟩ = false := by unfold World.frozen?; rw [h]; rfl
theorem settled_below {B S : Nat} {w w2 w' : World} (hb : Below B w w2) (hS : Settled S w2 w') (h : B ≤ S) (hs : B ≤ w2.heap.size) : Below B w w' :=
 ⟨hS.os.trans hb.os, hS.tape.trans hb.tape, hS.output.trans hb.output, Nat.le_trans hb.size hS.size, fun k hk => (hS.block k (by omega) (by omega) (by omega)).trans (hb.block k hk)⟩
theorem enters38 (args : Array Value) (w : World) : (callFunc 38 args).run Tryz.prog w = .ok (.enter 38 args) w := enters_of Tryz.func38 (by kernel_rfl) rfl args w
def protest_Check.f (l0 : List S25) : Option (Int × Int) := some ((errOf (boundOf l0)).getD (-1, 0))
theorem check_question (p : Addr) (A0 : Option Addr) (c0 : Nat) (l0 : List S25) (w : World) (hp : w.cell? p = some (.slice A0 l0.length c0)) (hr0 : Kd.C k25 w A0 l0.length l0) (hc0 : l0.length ≤ c0) :
  Calls Tryz.prog 38 #[.pointer (some p)] w fun e w' => Below w.heap.size w w' ∧ Ends (errOf (boundOf l0)) e := by
 have HR := Aside0.mk hr0
 clear hr0
 go_enter Tryz.func38, Tryz.ntmps38
 go_wp2_with fail
 refine (bound_calls A0 c0 l0 w HR.out hc0).mono ?_
 rintro e w' ⟨hb, he⟩
 cases h : boundOf l0 with
 | error ab =>
  obtain ⟨a, b⟩ := ab
  rw [h] at he
  cases he
  exact ⟨rfl, hb, by rw [h]; rfl⟩
 | ok m =>
  rw [h] at he
  obtain ⟨b, r, rfl, _⟩ := he
  go_wp2
  exact bodyPost_end (results_none rfl _ _ _) rfl ⟨hb, by rw [h]; rfl⟩
theorem protest_Check.calls (A0 : Option Addr) (c0 : Nat) (l0 : List S25) (r1 r2 : Int) (w : World) (hr0 : Kd.C k25 w A0 l0.length l0) (hc0 : l0.length ≤ c0) (h : protest_Check.f l0 = some (r1, r2)) :
  Calls Tryz.prog 12 #[.slice A0 l0.length c0] w fun e w' => e = .returned (.tuple #[.int .i64 r1, .int .i64 r2]) ∧ Below w.heap.size w w' := by
 have hmf : ∀ (fn : Fn) (first cap : Array Value) (w : World), (Instr.makeFunc fn first cap).run Tryz.prog w = .ok (.func fn first cap) w := fun _ _ _ _ => rfl
 have HR := Aside0.mk hr0
 clear hr0
 go_enter Tryz.func12, Tryz.ntmps12
 go_wp2_with fail
 have hcell : (w.alloc (.cells #[.slice A0 l0.length c0] 22)).cell? ⟨w.heap.size, 0, none⟩ = some (.slice A0 l0.length c0) := by simp [go_sem]
 have hb0 : Below w.heap.size w (w.alloc (.cells #[.slice A0 l0.length c0] 22)) := (Below.refl _ w).alloc (Nat.le_refl _) _
 have hsz : (w.alloc (.cells #[.slice A0 l0.length c0] 22)).heap.size = w.heap.size + 1 := by show (w.heap.push _).size = _; rw [Array.size_push]
 generalize w.alloc (.cells #[.slice A0 l0.length c0] 22) = W at hcell hb0 hsz ⊢
 refine (answered_calls 38 _ W (fun o w2 => Below W.heap.size W w2 ∧ o = errOf (boundOf l0)) enters38 fun w1 h1 hs => ?_).mono ?_
 ·refine (check_question _ A0 c0 l0 w1 ?_ ?_ hc0).mono ?_
  ·rw [h1.cell (by show w.heap.size < _; omega)]; exact hcell
  ·exact Kd.C_below (Kd.C_below HR.out hb0) (h1.mono (by omega))
  rintro e w2 ⟨hb, he⟩
  exact ⟨_, he, hb.block _ (by omega), hb.block _ (by omega), below_then h1 (by omega) hb, rfl⟩
 rintro e w' ⟨o, w2, ⟨hb, rfl⟩, hS, rfl⟩
 go_wp2
 have hb' : Below w.heap.size w w' := settled_below (below_then hb0 (by omega) hb) hS (by omega) (by have := hb.size; omega)
 refine bodyPost_ret (results_tmp2 rfl _ _ _) rfl ⟨?_, hb'⟩
 have h' := Option.some.inj h
 have e1 : r1 = ((errOf (boundOf l0)).getD (-1, 0)).1 := (congrArg Prod.fst h').symm
 have e2 : r2 = ((errOf (boundOf l0)).getD (-1, 0)).2 := (congrArg Prod.snd h').symm
 rw [e1, e2]
 rfl
end
end Go.Proofs.YtlhkeohcickiaaaGreatDoor.E

