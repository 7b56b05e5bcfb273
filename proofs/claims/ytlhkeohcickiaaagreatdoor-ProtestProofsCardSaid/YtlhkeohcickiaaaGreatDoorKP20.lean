/- Part 20 of 36 of the proof of ProtestProofs: lemmas, without conditions. -/
import Derived.Test.YtlhkeohcickiaaaGreatDoorKP19
import Derived.Maps.RangeRun
set_option linter.all false
namespace Go.Proofs.YtlhkeohcickiaaaGreatDoor.E
open Go.RowKit Go.Proofs.YtlhkeohcickiaaaGreatDoor.H Go.Proofs.YtlhkeohcickiaaaGreatDoorW.PrintWords Go.Proofs.YtlhkeohcickiaaaGreatDoorW.PrintLast Go.Proofs.YtlhkeohcickiaaaGreatDoorW.PrintMore
section
theorem mem_mput (m : List (ByteArray × Value)) (x : ByteArray) (v : Value) (h : ∀ p ∈ m, p.2 = v) : ∀ p ∈ mput m x v, p.2 = v := by
 induction m with
 | nil => simp [mput]
 | cons q l ih =>
  obtain ⟨y, u⟩ := q
  intro p hp
  unfold mput at hp
  split at hp
  ·rcases List.mem_cons.1 hp with rfl | hp
   ·rfl
   ·exact h p (by simp [hp])
  ·rcases List.mem_cons.1 hp with rfl | hp
   ·exact h (y, u) (by simp)
   ·exact ih (fun q hq => h q (by simp [hq])) p hp
theorem setOf_true (l : List ByteArray) : ∀ p ∈ setOf l, p.2 = .bool true := by
 unfold setOf
 have : ∀ (l : List ByteArray) (m : List (ByteArray × Value)), (∀ p ∈ m, p.2 = .bool true) → ∀ p ∈ l.foldl (fun m s => mput m s (.bool true)) m, p.2 = .bool true := by
  intro l
  induction l with
  | nil => intro m h; exact h
  | cons a l ih => intro m h; exact ih _ (mem_mput m a _ h)
 exact this l [] (by simp)
theorem has_mput (m : List (ByteArray × Value)) (x s : ByteArray) (v : Value) : has (mput m x v) s = (decide (s = x) || has m s) := by
 unfold has
 by_cases h : s = x
 ·subst h; simp [mget_mput_same]
 ·simp [mget_mput_other m v h, h]
theorem has_setOf (l : List ByteArray) (s : ByteArray) : has (setOf l) s = decide (s ∈ l) := by
 unfold setOf
 have : ∀ (l : List ByteArray) (m : List (ByteArray × Value)), has (l.foldl (fun m s => mput m s (.bool true)) m) s = (decide (s ∈ l) || has m s) := by
  intro l
  induction l with
  | nil => intro m; simp
  | cons a l ih =>
   intro m
   rw [List.foldl_cons, ih, has_mput]
   by_cases h1 : s = a <;> by_cases h2 : s ∈ l <;> simp [h1, h2]
 rw [this]
 simp [has, mget]
def disjB (l m : List ByteArray) : Bool := !(m.any fun s => decide (s ∈ l))
def okB (name : ByteArray) (lo hi : Int) (ifs unl : List ByteArray) (thn : ByteArray) : Bool :=
 (risingB ifs 8 && (risingB unl 8 && disjB ifs unl)) && (nameB name && (nameB thn && ((decide (0 ≤ lo) && decide (lo ≤ hi)) && decide (hi ≤ 1000))))
def protest_CheckClause.f (a0_0 : ByteArray) (a0_1 a0_2 : Int) (l0_3 l0_4 : List ByteArray) (a0_5 : ByteArray) : Option Bool :=
 some (okB a0_0 a0_1 a0_2 l0_3 l0_4 a0_5)
theorem rising_any (A : Option Addr) (c : Nat) (l : List ByteArray) (m : Int) (w : World) (hl : l.length ≤ 9223372036854775807) (hr : Kd.C Kd.string w A l.length l) (hc : l.length ≤ c) :
  Calls Tryz.prog 45 #[.slice A l.length c, .int .i64 m] w fun e w' => e = .returned (.bool (risingB l m)) ∧ Below w.heap.size w w' :=
 protest_rising.calls (l.length + 1) A c l m _ w hr hc (rising_eq l m hl)
theorem named_any (s : ByteArray) (w : World) : Calls Tryz.prog 43 #[.string s] w fun e w' => e = .returned (.bool (nameB s)) ∧ Below w.heap.size w w' :=
 protest_named.calls s _ w (named_eq s)
theorem within_any (a b c : Int) (w : World) : Calls Tryz.prog 48 #[.int .i64 a, .int .i64 b, .int .i64 c] w fun e w' => e = .returned (.bool (decide (b ≤ a) && decide (a ≤ c))) ∧ Below w.heap.size w w' :=
 (protest_within.calls a b c _ w (by unfold protest_within.f; by_cases h : b ≤ a <;> simp [h])).mono fun e w' ⟨he, hd⟩ => ⟨he, hd.below⟩
def Kept25 (w : World) (v : Array Value) (W : World) : Prop := W.heap[w.heap.size]? = some (.cells v 25 (0, 0)) ∧ Below w.heap.size w W
theorem Kept25.mk' (w : World) (v : Array Value) : Kept25 w v (w.alloc (.cells v 25)) := ⟨by show (w.heap.push _)[w.heap.size]? = _; simp, (Below.refl _ _).alloc (Nat.le_refl _) _⟩
theorem Kept25.lt {w : World} {v : Array Value} {W : World} (h : Kept25 w v W) : w.heap.size < W.heap.size := (Array.getElem?_eq_some_iff.1 h.1).1
theorem Kept25.below {w : World} {v : Array Value} {W W' : World} (h : Kept25 w v W) (hb : Below W.heap.size W W') : Kept25 w v W' :=
 ⟨(hb.block _ h.lt).trans h.1, h.2.trans (hb.mono (Nat.le_of_lt h.lt))⟩
theorem Kept25.drew {w : World} {v : Array Value} {W : World} (h : Kept25 w v W) : Kept25 w v W.drew := ⟨h.1, h.2.drew⟩
theorem Kept25.drewN {w : World} {v : Array Value} {W : World} (h : Kept25 w v W) (n : Nat) : Kept25 w v (W.drewN n) := ⟨h.1, pw_below_drewN h.2 n⟩
theorem Kept25.cell {w : World} {v : Array Value} {W : World} (h : Kept25 w v W) (j : Nat) : W.cell? ⟨w.heap.size, j, none⟩ = v[j]? := by
 unfold World.cell?
 rw [h.1]
 rfl
theorem k25_all {w : World} {a0 : ByteArray} {a1 a2 : Int} {v3 v4 : Value} {a5 : ByteArray} {W : World} (h : Kept25 w #[.string a0, .int .i64 a1, .int .i64 a2, v3, v4, .string a5] W) :
  Kept25 w #[.string a0, .int .i64 a1, .int .i64 a2, v3, v4, .string a5] W ∧ W.cell? ⟨w.heap.size, 3, none⟩ = some v3 ∧ W.cell? ⟨w.heap.size, 4, none⟩ = some v4 := ⟨h, h.cell 3, h.cell 4⟩
attribute [local go_sem] SteadyRes_value SteadyRes_skip SteadyRes_enter
set_option maxHeartbeats 400000 in
theorem protest_CheckClause.calls (a0_0 : ByteArray) (a0_1 : Int) (a0_2 : Int) (A0_3 : Option Addr) (c0_3 : Nat) (l0_3 : List ByteArray) (A0_4 : Option Addr) (c0_4 : Nat) (l0_4 : List ByteArray) (a0_5 : ByteArray) (r : Bool) (w : World)
  (hr0_3 : Kd.C Kd.string w A0_3 l0_3.length l0_3) (hc0_3 : l0_3.length ≤ c0_3) (hr0_4 : Kd.C Kd.string w A0_4 l0_4.length l0_4) (hc0_4 : l0_4.length ≤ c0_4) (h : protest_CheckClause.f a0_0 a0_1 a0_2 l0_3 l0_4 a0_5 = some r) :
  Calls Tryz.prog 16 #[.agg #[.string a0_0, .int .i64 a0_1, .int .i64 a0_2, .slice A0_3 l0_3.length c0_3, .slice A0_4 l0_4.length c0_4, .string a0_5]] w fun e w' => e = .returned (.bool r) ∧ Below w.heap.size w w' := by
 unfold protest_CheckClause.f at h
 have hlen : l0_3.length ≤ 9223372036854775807 ∧ l0_4.length ≤ 9223372036854775807 := ⟨hr0_3.2.1, hr0_4.2.1⟩
 injection h with h
 obtain ⟨v, hv⟩ : ∃ v : Array Value, v = #[.string a0_0, .int .i64 a0_1, .int .i64 a0_2, .slice A0_3 l0_3.length c0_3, .slice A0_4 l0_4.length c0_4, .string a0_5] := ⟨_, rfl⟩
 have h45a : ∀ W, Kept25 w v W → Calls Tryz.prog 45 #[.slice A0_3 l0_3.length c0_3, .int .i64 8] W fun e W' => e = .returned (.bool (risingB l0_3 8)) ∧ Below W.heap.size W W' := fun W hW => rising_any _ _ _ _ _ hlen.1 (Kd.C_below hr0_3 hW.2) hc0_3
 have h45b : ∀ W, Kept25 w v W → Calls Tryz.prog 45 #[.slice A0_4 l0_4.length c0_4, .int .i64 8] W fun e W' => e = .returned (.bool (risingB l0_4 8)) ∧ Below W.heap.size W W' := fun W hW => rising_any _ _ _ _ _ hlen.2 (Kd.C_below hr0_4 hW.2) hc0_4
 have h46 : ∀ W, Kept25 w v W → Calls Tryz.prog 46 #[.slice A0_3 l0_3.length c0_3] W fun e W' => ∃ r : Nat, e = .returned (.map (some r)) ∧ H.MapAt H.encS W' r (setOf l0_3) ∧ W.heap.size ≤ r ∧ Below W.heap.size W W' := fun W hW => of_calls _ _ _ _ (Kd.C_below hr0_3 hW.2) hc0_3
 have h47 : ∀ W r, Kept25 w v W → H.MapAt H.encS W r (setOf l0_3) → Calls Tryz.prog 47 #[.map (some r), .slice A0_4 l0_4.length c0_4] W fun e W' => e = .returned (.bool (l0_4.any (has (setOf l0_3)))) ∧ Below W.heap.size W W' := fun W r hW hm => any_calls _ (setOf_true _) r _ _ _ _ hm (Kd.C_below hr0_4 hW.2)
 have K0 := Kept25.mk' w v
 have H45a := Aside0.mk h45a
 have H45b := Aside0.mk h45b
 have H46 := Aside0.mk h46
 have H47 := Aside0.mk h47
 have HV := Aside0.mk hv
 have HR := Aside0.mk h
 clear h45a h45b h46 h47 h hr0_3 hr0_4 hlen
 subst hv
 have HK0 := Aside0.mk K0
 clear K0
 have hneed : okB a0_0 a0_1 a0_2 l0_3 l0_4 a0_5 = r := HR.out
 have HR2 := Aside0.mk hneed
 clear hneed HR HV
 have hfin : r = false ∨ (risingB l0_3 8 = true ∧ risingB l0_4 8 = true) := by
  have h := HR2.out
  unfold okB at h
  cases h1 : risingB l0_3 8 <;> cases h2 : risingB l0_4 8 <;> simp_all
 cases hb1 : risingB l0_3 8 with
 | false =>
  obtain rfl : r = false := by rcases hfin with h | h <;> simp_all
  have HB1 := Aside0.mk hb1
  clear hb1 hfin HR2
  go_enter Tryz.func16, Tryz.ntmps16
  go_wp2
  refine wp_region_steady (by kernel_rfl) (Kept25 w (#[.string a0_0, .int .i64 a0_1, .int .i64 a0_2, .slice A0_3 l0_3.length c0_3, .slice A0_4 l0_4.length c0_4, .string a0_5] : Array Value)) HK0.out.drew (by decide +kernel) ?_
  apply Chain.val
  ·rfl
  ·intro W hW
   have hw3 := (k25_all hW).2.1
   have hw4 := (k25_all hW).2.2
   go_simp
   first | exact rfl | exact ⟨rfl, hW⟩
  simp only [Act.put, List.setIfInBounds_toArray, List.set_cons_succ, List.set_cons_zero]
  apply Chain.val
  ·rfl
  ·intro W hW
   have hw3 := (k25_all hW).2.1
   have hw4 := (k25_all hW).2.2
   go_simp
   first | exact rfl | exact ⟨rfl, hW⟩
  simp only [Act.put, List.setIfInBounds_toArray, List.set_cons_succ, List.set_cons_zero]
  apply Chain.val
  ·rfl
  ·intro W hW
   have hw3 := (k25_all hW).2.1
   have hw4 := (k25_all hW).2.2
   go_simp
   exact (H45a.out W hW).mono fun e w' ⟨he, hb⟩ => ⟨he.trans (by rw [HB1.out]), hW.below hb⟩
  simp only [Act.put, List.setIfInBounds_toArray, List.set_cons_succ, List.set_cons_zero]
  apply Chain.val
  ·rfl
  ·intro W hW
   have hw3 := (k25_all hW).2.1
   have hw4 := (k25_all hW).2.2
   go_simp
   first | exact rfl | exact ⟨rfl, hW⟩
  simp only [Act.put, List.setIfInBounds_toArray, List.set_cons_succ, List.set_cons_zero]
  refine Chain.skip (by rfl) ?_
  simp only [Act.put, List.setIfInBounds_toArray, List.set_cons_succ, List.set_cons_zero]
  refine Chain.skip (by rfl) ?_
  simp only [Act.put, List.setIfInBounds_toArray, List.set_cons_succ, List.set_cons_zero]
  refine Chain.skip (by rfl) ?_
  simp only [Act.put, List.setIfInBounds_toArray, List.set_cons_succ, List.set_cons_zero]
  apply Chain.val
  ·rfl
  ·intro W hW
   have hw3 := (k25_all hW).2.1
   have hw4 := (k25_all hW).2.2
   go_simp
   first | exact rfl | exact ⟨rfl, hW⟩
  simp only [Act.put, List.setIfInBounds_toArray, List.set_cons_succ, List.set_cons_zero]
  apply Chain.val
  ·rfl
  ·intro W hW
   have hw3 := (k25_all hW).2.1
   have hw4 := (k25_all hW).2.2
   go_simp
   first | exact rfl | exact ⟨rfl, hW⟩
  simp only [Act.put, List.setIfInBounds_toArray, List.set_cons_succ, List.set_cons_zero]
  refine Chain.skip (by rfl) ?_
  simp only [Act.put, List.setIfInBounds_toArray, List.set_cons_succ, List.set_cons_zero]
  refine Chain.skip (by rfl) ?_
  simp only [Act.put, List.setIfInBounds_toArray, List.set_cons_succ, List.set_cons_zero]
  refine Chain.skip (by rfl) ?_
  simp only [Act.put, List.setIfInBounds_toArray, List.set_cons_succ, List.set_cons_zero]
  refine Chain.skip (by rfl) ?_
  simp only [Act.put, List.setIfInBounds_toArray, List.set_cons_succ, List.set_cons_zero]
  refine Chain.skip (by rfl) ?_
  simp only [Act.put, List.setIfInBounds_toArray, List.set_cons_succ, List.set_cons_zero]
  refine Chain.skip (by rfl) ?_
  simp only [Act.put, List.setIfInBounds_toArray, List.set_cons_succ, List.set_cons_zero]
  refine Chain.skip (by rfl) ?_
  simp only [Act.put, List.setIfInBounds_toArray, List.set_cons_succ, List.set_cons_zero]
  apply Chain.val
  ·rfl
  ·intro W hW
   have hw3 := (k25_all hW).2.1
   have hw4 := (k25_all hW).2.2
   go_simp
   first | exact rfl | exact ⟨rfl, hW⟩
  simp only [Act.put, List.setIfInBounds_toArray, List.set_cons_succ, List.set_cons_zero]
  apply Chain.val
  ·rfl
  ·intro W hW
   have hw3 := (k25_all hW).2.1
   have hw4 := (k25_all hW).2.2
   go_simp
   first | exact rfl | exact ⟨rfl, hW⟩
  simp only [Act.put, List.setIfInBounds_toArray, List.set_cons_succ, List.set_cons_zero]
  refine Chain.nil ?_
  intro W hW
  have HW := Aside0.mk hW
  clear hW
  go_wp2
  go_ret
  exact ⟨rfl, HW.out.2⟩
 | true =>
  cases hb2 : risingB l0_4 8 with
  | false =>
   obtain rfl : r = false := by rcases hfin with h | h <;> simp_all
   have HB1 := Aside0.mk hb1
   have HB2 := Aside0.mk hb2
   clear hb1 hb2 hfin HR2
   go_enter Tryz.func16, Tryz.ntmps16
   go_wp2
   refine wp_region_steady (by kernel_rfl) (Kept25 w (#[.string a0_0, .int .i64 a0_1, .int .i64 a0_2, .slice A0_3 l0_3.length c0_3, .slice A0_4 l0_4.length c0_4, .string a0_5] : Array Value)) HK0.out.drew (by decide +kernel) ?_
   apply Chain.val
   ·rfl
   ·intro W hW
    have hw3 := (k25_all hW).2.1
    have hw4 := (k25_all hW).2.2
    go_simp
    first | exact rfl | exact ⟨rfl, hW⟩
   simp only [Act.put, List.setIfInBounds_toArray, List.set_cons_succ, List.set_cons_zero]
   apply Chain.val
   ·rfl
   ·intro W hW
    have hw3 := (k25_all hW).2.1
    have hw4 := (k25_all hW).2.2
    go_simp
    first | exact rfl | exact ⟨rfl, hW⟩
   simp only [Act.put, List.setIfInBounds_toArray, List.set_cons_succ, List.set_cons_zero]
   apply Chain.val
   ·rfl
   ·intro W hW
    have hw3 := (k25_all hW).2.1
    have hw4 := (k25_all hW).2.2
    go_simp
    exact (H45a.out W hW).mono fun e w' ⟨he, hb⟩ => ⟨he.trans (by rw [HB1.out]), hW.below hb⟩
   simp only [Act.put, List.setIfInBounds_toArray, List.set_cons_succ, List.set_cons_zero]
   apply Chain.val
   ·rfl
   ·intro W hW
    have hw3 := (k25_all hW).2.1
    have hw4 := (k25_all hW).2.2
    go_simp
    first | exact rfl | exact ⟨rfl, hW⟩
   simp only [Act.put, List.setIfInBounds_toArray, List.set_cons_succ, List.set_cons_zero]
   apply Chain.val
   ·rfl
   ·intro W hW
    have hw3 := (k25_all hW).2.1
    have hw4 := (k25_all hW).2.2
    go_simp
    first | exact rfl | exact ⟨rfl, hW⟩
   simp only [Act.put, List.setIfInBounds_toArray, List.set_cons_succ, List.set_cons_zero]
   apply Chain.val
   ·rfl
   ·intro W hW
    have hw3 := (k25_all hW).2.1
    have hw4 := (k25_all hW).2.2
    go_simp
    first | exact rfl | exact ⟨rfl, hW⟩
   simp only [Act.put, List.setIfInBounds_toArray, List.set_cons_succ, List.set_cons_zero]
   apply Chain.val
   ·rfl
   ·intro W hW
    have hw3 := (k25_all hW).2.1
    have hw4 := (k25_all hW).2.2
    go_simp
    exact (H45b.out W hW).mono fun e w' ⟨he, hb⟩ => ⟨he.trans (by rw [HB2.out]), hW.below hb⟩
   simp only [Act.put, List.setIfInBounds_toArray, List.set_cons_succ, List.set_cons_zero]
   apply Chain.val
   ·rfl
   ·intro W hW
    have hw3 := (k25_all hW).2.1
    have hw4 := (k25_all hW).2.2
    go_simp
    first | exact rfl | exact ⟨rfl, hW⟩
   simp only [Act.put, List.setIfInBounds_toArray, List.set_cons_succ, List.set_cons_zero]
   apply Chain.val
   ·rfl
   ·intro W hW
    have hw3 := (k25_all hW).2.1
    have hw4 := (k25_all hW).2.2
    go_simp
    first | exact rfl | exact ⟨rfl, hW⟩
   simp only [Act.put, List.setIfInBounds_toArray, List.set_cons_succ, List.set_cons_zero]
   refine Chain.skip (by rfl) ?_
   simp only [Act.put, List.setIfInBounds_toArray, List.set_cons_succ, List.set_cons_zero]
   refine Chain.skip (by rfl) ?_
   simp only [Act.put, List.setIfInBounds_toArray, List.set_cons_succ, List.set_cons_zero]
   refine Chain.skip (by rfl) ?_
   simp only [Act.put, List.setIfInBounds_toArray, List.set_cons_succ, List.set_cons_zero]
   refine Chain.skip (by rfl) ?_
   simp only [Act.put, List.setIfInBounds_toArray, List.set_cons_succ, List.set_cons_zero]
   refine Chain.skip (by rfl) ?_
   simp only [Act.put, List.setIfInBounds_toArray, List.set_cons_succ, List.set_cons_zero]
   refine Chain.skip (by rfl) ?_
   simp only [Act.put, List.setIfInBounds_toArray, List.set_cons_succ, List.set_cons_zero]
   refine Chain.skip (by rfl) ?_
   simp only [Act.put, List.setIfInBounds_toArray, List.set_cons_succ, List.set_cons_zero]
   apply Chain.val
   ·rfl
   ·intro W hW
    have hw3 := (k25_all hW).2.1
    have hw4 := (k25_all hW).2.2
    go_simp
    first | exact rfl | exact ⟨rfl, hW⟩
   simp only [Act.put, List.setIfInBounds_toArray, List.set_cons_succ, List.set_cons_zero]
   apply Chain.val
   ·rfl
   ·intro W hW
    have hw3 := (k25_all hW).2.1
    have hw4 := (k25_all hW).2.2
    go_simp
    first | exact rfl | exact ⟨rfl, hW⟩
   simp only [Act.put, List.setIfInBounds_toArray, List.set_cons_succ, List.set_cons_zero]
   refine Chain.nil ?_
   intro W hW
   have HW := Aside0.mk hW
   clear hW
   go_wp2
   go_ret
   exact ⟨rfl, HW.out.2⟩
  | true =>
   have hokr : ((!(l0_4.any (has (setOf l0_3)))) && (nameB a0_0 && (nameB a0_5 && ((decide (0 ≤ a0_1) && decide (a0_1 ≤ a0_2)) && decide (a0_2 ≤ 1000))))) = r := by
    have h := HR2.out
    unfold okB disjB at h
    rw [hb1, hb2] at h
    have e : (l0_4.any fun s => decide (s ∈ l0_3)) = l0_4.any (has (setOf l0_3)) := by congr 1; funext s; exact (has_setOf l0_3 s).symm
    rw [e] at h
    rw [← h]
    rfl
   have HB1 := Aside0.mk hb1
   have HB2 := Aside0.mk hb2
   have HOK := Aside0.mk hokr
   clear hb1 hb2 hfin HR2 hokr
   obtain ⟨d, hd⟩ : ∃ d, d = l0_4.any (has (setOf l0_3)) := ⟨_, rfl⟩
   have HD := Aside0.mk hd
   clear hd
   go_enter Tryz.func16, Tryz.ntmps16
   go_wp2
   go_region_held3 (fun W => Kept25 w (#[.string a0_0, .int .i64 a0_1, .int .i64 a0_2, .slice A0_3 l0_3.length c0_3, .slice A0_4 l0_4.length c0_4, .string a0_5] : Array Value) W ∧ W.cell? ⟨w.heap.size, 3, none⟩ = some (.slice A0_3 l0_3.length c0_3) ∧ W.cell? ⟨w.heap.size, 4, none⟩ = some (.slice A0_4 l0_4.length c0_4))
    (first | exact k25_all HK0.out.drew | exact k25_all (Kept25.below (And.left (by assumption)) hb))
    (first
     | (go_at_call 45; (with_reducible refine (H45a.out _ ?_).mono ?_); (first | exact HK0.out.drew | exact (And.left (by assumption))); rintro e w' ⟨rfl, hb⟩; rw [HB1.out])
     | (go_at_call 45; (with_reducible refine (H45b.out _ ?_).mono ?_); (first | exact HK0.out.drew | exact (And.left (by assumption))); rintro e w' ⟨rfl, hb⟩; rw [HB2.out])
     | (go_at_call 46; (with_reducible refine (H46.out _ ?_).mono ?_); (first | exact HK0.out.drew | exact (And.left (by assumption))); rintro e w' ⟨mr, rfl, hm, hmr, hb⟩)
     | (go_at_call 47; (with_reducible refine (H47.out _ _ ?_ ?_).mono ?_); (first | exact HK0.out.drew | exact (And.left (by assumption))); assumption; rintro e w' ⟨rfl, hb⟩; rw [← HD.out]))
   all_goals
    have hk := And.left (by assumption : Kept25 w _ _ ∧ _)
    have HK := Aside0.mk hk
    have f0 := hk.cell 0
    have f1 := hk.cell 1
    have f2 := hk.cell 2
    have f5 := hk.cell 5
    clear hk
    simp only [List.getElem?_toArray, List.getElem?_cons_zero, List.getElem?_cons_succ] at f0 f1 f2 f5
    cases d with
    | true =>
     obtain rfl : false = r := by simpa [← HD.out] using HOK.out
     go_wp2
     go_ret
     exact ⟨rfl, HK.out.2⟩
    | false =>
     cases hn0 : nameB a0_0 with
     | false =>
      obtain rfl : false = r := by simpa [hn0] using HOK.out
      have HN0 := Aside0.mk hn0
      clear hn0
      go_wp2_with (first | (go_at_call 43; (with_reducible refine (named_any a0_0 _).mono ?_); rintro e w2 ⟨rfl, hb2⟩; rw [HN0.out]))
      go_ret
      exact ⟨rfl, (HK.out.below hb2).2⟩
     | true =>
      have HN0 := Aside0.mk hn0
      clear hn0
      go_wp2_with fail
      (with_reducible refine (named_any a0_0 _).mono ?_)
      rintro e w2 ⟨rfl, hb2⟩
      rw [HN0.out]
      have HK2 := Aside0.mk (HK.out.below hb2)
      have g1 := HK2.out.cell 1
      have g2 := HK2.out.cell 2
      have g5 := HK2.out.cell 5
      simp only [List.getElem?_toArray, List.getElem?_cons_zero, List.getElem?_cons_succ] at g1 g2 g5
      cases hn5 : nameB a0_5 with
      | false =>
       obtain rfl : false = r := by simpa [hn5] using HOK.out
       have HN5 := Aside0.mk hn5
       clear hn5
       go_wp2_with (first | (go_at_call 43; (with_reducible refine (named_any a0_5 _).mono ?_); rintro e w3 ⟨rfl, hb3⟩; rw [HN5.out]))
       go_ret
       exact ⟨rfl, (HK2.out.below hb3).2⟩
      | true =>
       have HN5 := Aside0.mk hn5
       clear hn5
       go_wp2_with fail
       (with_reducible refine (named_any a0_5 _).mono ?_)
       rintro e w3 ⟨rfl, hb3⟩
       rw [HN5.out]
       have HK3 := Aside0.mk (HK2.out.below hb3)
       have k1 := HK3.out.cell 1
       have k2 := HK3.out.cell 2
       simp only [List.getElem?_toArray, List.getElem?_cons_zero, List.getElem?_cons_succ] at k1 k2
       cases hn1 : (decide (0 ≤ a0_1) && decide (a0_1 ≤ a0_2)) with
       | false =>
        obtain rfl : false = r := by simpa [hn1] using HOK.out
        have HN1 := Aside0.mk hn1
        clear hn1
        go_wp2_with (first | (go_at_call 48; (with_reducible refine (within_any a0_1 0 a0_2 _).mono ?_); rintro e w4 ⟨rfl, hb4⟩; rw [HN1.out]))
        go_ret
        exact ⟨rfl, (HK3.out.below hb4).2⟩
       | true =>
        have hle : decide (a0_2 ≤ 1000) = r := by
         have h := HOK.out
         rw [HN0.out, HN5.out, hn1] at h
         rw [← h]
         have e := HD.out
         rw [← e]
         simp
        have HN1 := Aside0.mk hn1
        have HLE := Aside0.mk hle
        clear hn1 hle
        go_wp2_with fail
        (with_reducible refine (within_any a0_1 0 a0_2 _).mono ?_)
        rintro e w4 ⟨rfl, hb4⟩
        rw [HN1.out]
        have HK4 := Aside0.mk (HK3.out.below hb4)
        have m2 := HK4.out.cell 2
        simp only [List.getElem?_toArray, List.getElem?_cons_zero, List.getElem?_cons_succ] at m2
        go_wp2
        go_ret
        refine ⟨?_, HK4.out.2⟩
        rw [← HLE.out]
        rfl
end
end Go.Proofs.YtlhkeohcickiaaaGreatDoor.E
namespace Go.Proofs.YtlhkeohcickiaaaGreatDoor.Prot
structure Cl (α : Type) where
 name : α
 lo : Int
 hi : Int
 ifs : List α
 unl : List α
 thn : α
variable {α : Type} [DecidableEq α]
def get : List (α × Nat) → α → Nat
 | [], _ => 0
 | (y, n) :: r, x => if y = x then n else get r x
def put : List (α × Nat) → α → Nat → List (α × Nat)
 | [], x, n => [(x, n)]
 | (y, k) :: r, x, n => if y = x then (y, n) :: r else (y, k) :: put r x n
theorem get_put_same (m : List (α × Nat)) (x : α) (n : Nat) : get (put m x n) x = n := by
 induction m with
 | nil => simp [put, get]
 | cons p r ih =>
  obtain ⟨y, k⟩ := p
  by_cases h : y = x
  ·simp [put, get, h]
  ·simp [put, get, h, ih]
theorem get_put_other (m : List (α × Nat)) {x z : α} (n : Nat) (h : x ≠ z) : get (put m x n) z = get m z := by
 induction m with
 | nil => simp [put, get, h]
 | cons p r ih =>
  obtain ⟨y, k⟩ := p
  by_cases hx : y = x
  ·subst hx; simp [put, get, h]
  ·by_cases hz : y = z
   ·subst hz; simp [put, get, hx]
   ·simp [put, get, hx, hz, ih]
def foldIf (m : List (α × Nat)) (l : List α) (n : Nat) : Nat := l.foldl (fun n f => max n (get m f)) n
def foldUn (m : List (α × Nat)) (l : List α) (n : Nat) : Nat := l.foldl (fun n f => max n (get m f + 1)) n
def wants (m : List (α × Nat)) (c : Cl α) : Nat := foldUn m c.unl (foldIf m c.ifs (get m c.thn))
theorem foldIf_le (m : List (α × Nat)) (l : List α) (n b : Nat) : foldIf m l n ≤ b ↔ n ≤ b ∧ ∀ f ∈ l, get m f ≤ b := by
 unfold foldIf
 induction l generalizing n with
 | nil => simp
 | cons f l ih =>
  rw [List.foldl_cons, ih]
  simp only [List.mem_cons, forall_eq_or_imp, Nat.max_le, and_assoc]
theorem foldUn_le (m : List (α × Nat)) (l : List α) (n b : Nat) : foldUn m l n ≤ b ↔ n ≤ b ∧ ∀ f ∈ l, get m f + 1 ≤ b := by
 unfold foldUn
 induction l generalizing n with
 | nil => simp
 | cons f l ih =>
  rw [List.foldl_cons, ih]
  simp only [List.mem_cons, forall_eq_or_imp, Nat.max_le, and_assoc]
theorem wants_le (m : List (α × Nat)) (c : Cl α) (b : Nat) :
  wants m c ≤ b ↔ get m c.thn ≤ b ∧ (∀ f ∈ c.ifs, get m f ≤ b) ∧ ∀ f ∈ c.unl, get m f < b := by
 unfold wants
 rw [foldUn_le, foldIf_le]
 constructor
 ·rintro ⟨⟨h1, h2⟩, h3⟩; exact ⟨h1, h2, h3⟩
 ·rintro ⟨h1, h2, h3⟩; exact ⟨⟨h1, h2⟩, h3⟩
theorem le_wants (m : List (α × Nat)) (c : Cl α) : get m c.thn ≤ wants m c := ((wants_le m c _).1 (Nat.le_refl _)).1
def passL (len : Nat) : List (Cl α) → List (α × Nat) → Bool → Option (List (α × Nat) × Bool)
 | [], m, b => some (m, b)
 | c :: cs, m, b =>
  if len < wants m c then none
  else if get m c.thn < wants m c then passL len cs (put m c.thn (wants m c)) true
  else passL len cs m b
def levelsF (book : List (Cl α)) : Nat → List (α × Nat) → Option (Option (List (α × Nat)))
 | 0, _ => none
 | k + 1, m =>
  match passL book.length book m false with
  | none => some none
  | some (m', true) => levelsF book k m'
  | some (m', false) => some (some m')
def levels (book : List (Cl α)) : Option (List (α × Nat)) := (levelsF book (book.length * book.length + 2) []).getD none
def Grows (m m' : List (α × Nat)) : Prop := ∀ x, get m x ≤ get m' x
theorem Grows.refl (m : List (α × Nat)) : Grows m m := fun _ => Nat.le_refl _
theorem Grows.trans {a b c : List (α × Nat)} (h : Grows a b) (k : Grows b c) : Grows a c := fun x => Nat.le_trans (h x) (k x)
theorem grows_put {m : List (α × Nat)} {x : α} {n : Nat} (h : get m x ≤ n) : Grows m (put m x n) := by
 intro z
 by_cases e : x = z
 ·subst e; rw [get_put_same]; exact h
 ·rw [get_put_other _ _ e]; exact Nat.le_refl _
theorem pass_grows (len : Nat) (cs : List (Cl α)) : ∀ (m : List (α × Nat)) (b : Bool) (m' : List (α × Nat)) (b' : Bool), passL len cs m b = some (m', b') →
  Grows m m' ∧ ((∀ x, get m x ≤ len) → ∀ x, get m' x ≤ len) ∧ (b = true → b' = true) ∧ (b = false → b' = true → ∃ c ∈ cs, get m c.thn < get m' c.thn) ∧
  (b' = false → m' = m ∧ ∀ c ∈ cs, wants m c ≤ get m c.thn) := by
 induction cs with
 | nil =>
  intro m b m' b' h
  simp only [passL, Option.some.injEq, Prod.mk.injEq] at h
  obtain ⟨rfl, rfl⟩ := h
  exact ⟨Grows.refl _, fun h => h, fun h => h, fun h k => (by rw [h] at k; cases k), fun _ => ⟨rfl, by simp⟩⟩
 | cons c cs ih =>
  intro m b m' b' h
  unfold passL at h
  split at h
  ·cases h
  ·rename_i hlen
   split at h
   ·rename_i hlt
    obtain ⟨g, hb, ht, _, hf⟩ := ih _ _ _ _ h
    have hg := grows_put (m := m) (x := c.thn) (n := wants m c) (le_wants m c)
    refine ⟨hg.trans g, fun hm => hb (fun x => ?_), fun _ => ht rfl, fun _ _ => ⟨c, by simp, ?_⟩, fun h' => ?_⟩
    ·by_cases e : c.thn = x
     ·subst e; rw [get_put_same]; omega
     ·rw [get_put_other _ _ e]; exact hm x
    ·have := g c.thn
     rw [get_put_same] at this
     omega
    ·rw [ht rfl] at h'; cases h'
   ·rename_i hnlt
    obtain ⟨g, hb, ht, hs, hf⟩ := ih _ _ _ _ h
    refine ⟨g, hb, ht, fun h1 h2 => ?_, fun h1 => ?_⟩
    ·obtain ⟨d, hd, hd'⟩ := hs h1 h2
     exact ⟨d, by simp [hd], hd'⟩
    ·obtain ⟨e, h3⟩ := hf h1
     refine ⟨e, ?_⟩
     intro d hd
     rcases List.mem_cons.1 hd with rfl | hd
     ·omega
     ·exact h3 d hd
def total (book : List (Cl α)) (m : List (α × Nat)) : Nat := (book.map fun c => get m c.thn).sum
theorem total_mono (book : List (Cl α)) {m m' : List (α × Nat)} (h : Grows m m') : total book m ≤ total book m' := by
 unfold total
 induction book with
 | nil => simp
 | cons c cs ih => simp only [List.map_cons, List.sum_cons]; have := h c.thn; omega
theorem total_lt (book : List (Cl α)) {m m' : List (α × Nat)} (h : Grows m m') (hc : ∃ c ∈ book, get m c.thn < get m' c.thn) : total book m < total book m' := by
 induction book with
 | nil => obtain ⟨c, hc, _⟩ := hc; cases hc
 | cons c cs ih =>
  obtain ⟨d, hd, hlt⟩ := hc
  have hm := total_mono cs h
  have hcc := h c.thn
  unfold total at *
  simp only [List.map_cons, List.sum_cons]
  rcases List.mem_cons.1 hd with rfl | hd
  ·omega
  ·have := ih ⟨d, hd, hlt⟩
   omega
theorem total_le (book : List (Cl α)) (len : Nat) (m : List (α × Nat)) (h : ∀ x, get m x ≤ len) : total book m ≤ book.length * len := by
 unfold total
 induction book with
 | nil => simp
 | cons c cs ih =>
  simp only [List.map_cons, List.sum_cons, List.length_cons, Nat.add_mul, Nat.one_mul]
  have := h c.thn
  omega
theorem levelsF_total (book : List (Cl α)) : ∀ (k : Nat) (m : List (α × Nat)), (∀ x, get m x ≤ book.length) → book.length * book.length + 1 ≤ total book m + k → levelsF book k m ≠ none := by
 intro k
 induction k with
 | zero =>
  intro m hm hk
  have := total_le book book.length m hm
  omega
 | succ k ih =>
  intro m hm hk
  unfold levelsF
  split
  ·simp
  ·rename_i m' h
   obtain ⟨g, hb, _, hs, _⟩ := pass_grows _ _ _ _ _ _ h
   refine ih m' (hb hm) ?_
   have := total_lt book g (hs rfl rfl)
   omega
  ·simp
theorem levels_eq (book : List (Cl α)) : levelsF book (book.length * book.length + 2) [] = some (levels book) := by
 have h := levelsF_total book (book.length * book.length + 2) [] (by simp [get]) (by omega)
 unfold levels
 cases hh : levelsF book (book.length * book.length + 2) [] with
 | none => exact absurd hh h
 | some r => rfl
def Fits (g : α → Nat) (book : List (Cl α)) : Prop := ∀ c ∈ book, (∀ f ∈ c.ifs, g f ≤ g c.thn) ∧ ∀ f ∈ c.unl, g f < g c.thn
theorem levelsF_fits (book : List (Cl α)) : ∀ (k : Nat) (m r : List (α × Nat)), (∀ x, get m x ≤ book.length) → levelsF book k m = some (some r) → Fits (get r) book ∧ ∀ x, get r x ≤ book.length := by
 intro k
 induction k with
 | zero => intro m r _ h; simp [levelsF] at h
 | succ k ih =>
  intro m r hm h
  unfold levelsF at h
  split at h
  ·simp at h
  ·rename_i m' hp
   obtain ⟨_, hb, _, _, _⟩ := pass_grows _ _ _ _ _ _ hp
   exact ih m' r (hb hm) h
  ·rename_i m' hp
   simp only [Option.some.injEq] at h
   subst h
   obtain ⟨_, hb, _, _, hf⟩ := pass_grows _ _ _ _ _ _ hp
   obtain ⟨rfl, hw⟩ := hf rfl
   exact ⟨fun c hc => ((wants_le _ c _).1 (hw c hc)).2, hm⟩
theorem levels_fits {book : List (Cl α)} {r : List (α × Nat)} (h : levels book = some r) : Fits (get r) book ∧ ∀ x, get r x ≤ book.length :=
 levelsF_fits book _ [] r (by simp [get]) (by rw [levels_eq, h])
theorem filter_length_mono {l : List Nat} {p q : Nat → Bool} (h : ∀ v, p v = true → q v = true) : (l.filter p).length ≤ (l.filter q).length := by
 induction l with
 | nil => simp
 | cons a l ih =>
  simp only [List.filter_cons]
  by_cases hp : p a = true
  ·simp only [hp, h a hp, if_true, List.length_cons]; omega
  ·by_cases hq : q a = true
   ·simp only [hp, hq, if_true, List.length_cons]; simp; omega
   ·simp only [hp, hq]; simpa using ih
theorem filter_length_lt {l : List Nat} {p q : Nat → Bool} (h : ∀ v, p v = true → q v = true) {a : Nat} (ha : a ∈ l) (hp : p a = false) (hq : q a = true) : (l.filter p).length < (l.filter q).length := by
 induction l with
 | nil => cases ha
 | cons b l ih =>
  simp only [List.filter_cons]
  rcases List.mem_cons.1 ha with rfl | ha
  ·simp only [hp, hq, if_true, List.length_cons]
   have := filter_length_mono (l := l) h
   simp; omega
  ·have := ih ha
   by_cases hb : p b = true
   ·simp only [hb, h b hb, if_true, List.length_cons]; omega
   ·by_cases hc : q b = true
    ·simp only [hb, hc, if_true, List.length_cons]; simp; omega
    ·simp only [hb, hc]; simpa using this
end Go.Proofs.YtlhkeohcickiaaaGreatDoor.Prot
namespace Go.Proofs.YtlhkeohcickiaaaGreatDoor.E
open Go.RowKit Go.Proofs.YtlhkeohcickiaaaGreatDoor.H Go.Proofs.YtlhkeohcickiaaaGreatDoorW.PrintWords Go.Proofs.YtlhkeohcickiaaaGreatDoorW.PrintLast Go.Proofs.YtlhkeohcickiaaaGreatDoorW.PrintMore
section
open Go.ChangeMaps (setBlock)
def emb (m : List (ByteArray × Nat)) : List (ByteArray × Value) := m.map fun p => (p.1, .int .i64 (p.2 : Nat))
theorem emb_length (m : List (ByteArray × Nat)) : (emb m).length = m.length := by simp [emb]
def topOf (m : List (ByteArray × Nat)) : Nat := m.foldl (fun t p => max t p.2) 0
theorem foldl_max_le (m : List (ByteArray × Nat)) : ∀ t b : Nat, m.foldl (fun t p => max t p.2) t ≤ b ↔ t ≤ b ∧ ∀ p ∈ m, p.2 ≤ b := by
 induction m with
 | nil => intro t b; simp
 | cons q l ih =>
  intro t b
  rw [List.foldl_cons, ih]
  simp only [List.mem_cons, forall_eq_or_imp, Nat.max_le, and_assoc]
theorem topOf_le {m : List (ByteArray × Nat)} {b : Nat} : topOf m ≤ b ↔ ∀ p ∈ m, p.2 ≤ b := by
 unfold topOf; rw [foldl_max_le]; simp
theorem le_topOf {m : List (ByteArray × Nat)} {p : ByteArray × Nat} (h : p ∈ m) : p.2 ≤ topOf m := topOf_le.1 (Nat.le_refl _) p h
structure RangeSt (W : World) (r it : Nat) (m : List (ByteArray × Nat)) (seen : Array Nat) (top : Nat) : Prop where
 map : H.MapAt H.encS W r (emb m)
 iter : W.heap[it]? = some (.mapIter (some r) m.length seen m.length)
 low : ∀ i p, m[i]? = some p → seen.contains i = true → p.2 ≤ top
 high : top ≤ topOf m
theorem RangeSt.lt {W : World} {r it : Nat} {m : List (ByteArray × Nat)} {seen : Array Nat} {top : Nat} (h : RangeSt W r it m seen top) : it < W.heap.size := (Array.getElem?_eq_some_iff.1 h.iter).1
theorem RangeSt.ne {W : World} {r it : Nat} {m : List (ByteArray × Nat)} {seen : Array Nat} {top : Nat} (h : RangeSt W r it m seen top) : it ≠ r := by
 rintro rfl
 have h1 := h.iter
 have h2 := h.map.out
 rw [h1] at h2
 cases h2
theorem setBlock_other (W : World) (it : Nat) (o : Obj) {k : Nat} (h : k ≠ it) : (setBlock W it o).heap[k]? = W.heap[k]? := by
 simp only [setBlock, Array.getElem?_setIfInBounds]
 rw [if_neg (fun e => h e.symm)]
theorem setBlock_same (W : World) (it : Nat) (o : Obj) (h : it < W.heap.size) : (setBlock W it o).heap[it]? = some o := by
 simp [setBlock, h]
theorem below_setBlock {B : Nat} {w W : World} (h : Below B w W) {it : Nat} (hr : B ≤ it) (o : Obj) : Below B w (setBlock W it o) :=
 h.trans ⟨rfl, rfl, rfl, by simp [setBlock], fun k hk => setBlock_other W it o (by omega)⟩
theorem ents_mem {m : List (ByteArray × Nat)} {e : MapEntry} (h : e ∈ (ents H.encS (emb m)).toList) : ∃ i p, m[i]? = some p ∧ e = { key := .string p.1, val := .int .i64 (p.2 : Nat), born := i } := by
 rw [Array.mem_toList_iff, Array.mem_iff_getElem?] at h
 obtain ⟨i, hi⟩ := h
 rw [ents_get] at hi
 simp only [emb, List.getElem?_map] at hi
 cases hm : m[i]? with
 | none => rw [hm] at hi; cases hi
 | some p =>
  rw [hm] at hi
  simp only [Option.map_some, Option.some.injEq] at hi
  exact ⟨i, p, hm, hi.symm⟩
theorem ents_born_nodup (m : List (ByteArray × Value)) : ((ents H.encS m).toList.map (·.born)).Nodup := by
 have : (ents H.encS m).toList.map (·.born) = List.range m.length := by
  apply List.ext_getElem?
  intro j
  simp only [List.getElem?_map, Array.getElem?_toList, ents_get]
  by_cases h : j < m.length
  ·simp [h]
  ·simp [h]
 rw [this]
 exact List.nodup_range
theorem left_push {es : Array MapEntry} {seen : Array Nat} {e : MapEntry} (he : e ∈ (leftOf es seen).toList) : (leftOf es (seen.push e.born)).size < (leftOf es seen).size := by
 have e1 : ∀ sn : Array Nat, (leftOf es sn).size = (es.toList.filter fun x => !sn.contains x.born).length := fun sn => by
  unfold leftOf
  rw [← Array.length_toList, Array.toList_filter]
 rw [e1, e1]
 unfold leftOf at he
 rw [Array.toList_filter, List.mem_filter] at he
 obtain ⟨hm, hn⟩ := he
 have key : ∀ l : List MapEntry, e ∈ l → (l.filter fun x => !(seen.push e.born).contains x.born).length < (l.filter fun x => !seen.contains x.born).length := by
  intro l
  have mono : ∀ l : List MapEntry, (l.filter fun x => !(seen.push e.born).contains x.born).length ≤ (l.filter fun x => !seen.contains x.born).length := by
   intro l
   induction l with
   | nil => simp
   | cons a l ih =>
    simp only [List.filter_cons]
    by_cases h1 : (!seen.contains a.born) = true
    ·rw [if_pos h1]
     split
     ·simp only [List.length_cons]; omega
     ·simp only [List.length_cons]; omega
    ·have h2 : ¬ (!(seen.push e.born).contains a.born) = true := by
      simp only [Bool.not_eq_true', Bool.not_eq_false] at h1 ⊢
      simp at h1 ⊢
      exact .inl h1
     rw [if_neg h1, if_neg h2]
     exact ih
  induction l with
  | nil => intro h; cases h
  | cons a l ih =>
   intro h
   rcases List.mem_cons.1 h with rfl | h
   ·have h2 : ¬ (!(seen.push e.born).contains e.born) = true := by simp
    simp only [List.filter_cons]
    rw [if_pos hn, if_neg h2]
    have := mono l
    simp only [List.length_cons]
    omega
   ·have h3 := ih h
    simp only [List.filter_cons]
    by_cases h1 : (!seen.contains a.born) = true
    ·rw [if_pos h1]
     split
     ·simp only [List.length_cons]; omega
     ·simp only [List.length_cons]; omega
    ·have h2 : ¬ (!(seen.push e.born).contains a.born) = true := by
      simp only [Bool.not_eq_true', Bool.not_eq_false] at h1 ⊢
      simp at h1 ⊢
      exact .inl h1
     rw [if_neg h1, if_neg h2]
     exact h3
 exact key _ hm
theorem range_step {P : Program} {W : World} {r it : Nat} {m : List (ByteArray × Nat)} {seen : Array Nat} {top : Nat} (h : RangeSt W r it m seen top) (ty : TypeId) :
  ((leftOf (ents H.encS (emb m)) seen).size = 0 ∧ top = topOf m ∧ (Instr.next (.pointer (some ⟨it, 0, none⟩)) false ty).run P W = .ok (.tuple #[.bool false]) W) ∨
  ∃ (p : ByteArray × Nat) (seen' : Array Nat) (W1 : World), (W1 = W ∨ W1 = W.drew) ∧
   (Instr.next (.pointer (some ⟨it, 0, none⟩)) false ty).run P W = .ok (.tuple #[.bool true, .string p.1, .int .i64 (p.2 : Nat)]) (setBlock W1 it (.mapIter (some r) m.length seen' m.length)) ∧
   (Instr.entry (.pointer (some ⟨it, 0, none⟩))).run P (setBlock W1 it (.mapIter (some r) m.length seen' m.length)) = .ok (.tuple #[.string p.1, .int .i64 (p.2 : Nat)]) (setBlock W1 it (.mapIter (some r) m.length seen' m.length)) ∧
   RangeSt (setBlock W1 it (.mapIter (some r) m.length seen' m.length)) r it m seen' (max top p.2) ∧ (leftOf (ents H.encS (emb m)) seen').size < (leftOf (ents H.encS (emb m)) seen).size := by
 have hb := h.map.out
 rw [emb_length] at hb
 have hold : ∀ x ∈ (ents H.encS (emb m)).toList, x.born < m.length := by
  intro x hx
  obtain ⟨i, p, hi, rfl⟩ := ents_mem hx
  exact (List.getElem?_eq_some_iff.1 hi).1
 rcases run_next_at (P := P) W ty it r m.length m.length seen _ _ h.iter hb hold (Nat.le_refl _) with ⟨h0, hrun⟩ | ⟨e, he, W1, hW1, hrun⟩
 ·left
  refine ⟨h0, ?_, hrun⟩
  refine Nat.le_antisymm h.high (topOf_le.2 fun p hp => ?_)
  obtain ⟨i, hi, hpi⟩ := List.getElem_of_mem hp
  have hgi : m[i]? = some p := by rw [List.getElem?_eq_getElem hi, hpi]
  refine h.low i p hgi ?_
  rcases hc : seen.contains i with _ | _
  ·exfalso
   have hmem : ({ key := .string p.1, val := .int .i64 (p.2 : Nat), born := i } : MapEntry) ∈ (leftOf (ents H.encS (emb m)) seen).toList := by
    unfold leftOf
    rw [Array.toList_filter, List.mem_filter]
    refine ⟨?_, by rw [hc]; rfl⟩
    rw [Array.mem_toList_iff, Array.mem_iff_getElem?]
    exact ⟨i, by rw [ents_get]; simp only [emb, List.getElem?_map, hgi, Option.map_some]; rfl⟩
   rw [Array.eq_empty_of_size_eq_zero h0] at hmem
   simp at hmem
  ·rfl
 ·right
  have hein : e ∈ (ents H.encS (emb m)).toList := by
   unfold leftOf at he
   rw [Array.toList_filter, List.mem_filter] at he
   exact he.1
  obtain ⟨i, p, hi, rfl⟩ := ents_mem hein
  have hheap : W1.heap = W.heap := by rcases hW1 with rfl | rfl <;> rfl
  have hs : (setBlock W1 it (.mapIter (some r) m.length (seen.push i) m.length)).heap[it]? = some (.mapIter (some r) m.length (seen.push i) m.length) := setBlock_same _ _ _ (by rw [hheap]; exact h.lt)
  have hr : (setBlock W1 it (.mapIter (some r) m.length (seen.push i) m.length)).heap[r]? = some (.map (ents H.encS (emb m)) m.length) := by rw [setBlock_other _ _ _ (Ne.symm h.ne), hheap]; exact hb
  refine ⟨p, seen.push i, W1, hW1, hrun, ?_, ⟨?_, hs, ?_, ?_⟩, left_push he⟩
  ·exact run_entry_at _ it r m.length seen _ _ _ hs hr hein (ents_born_nodup _)
  ·unfold H.MapAt; rw [hr, emb_length]
  ·intro j q hj hc
   by_cases hji : j = i
   ·subst hji
    rw [hi] at hj
    injection hj with hj
    subst hj
    omega
   ·have : seen.contains j = true := by
     simp at hc ⊢
     rcases hc with hc | hc
     ·exact hc
     ·exact absurd hc hji
    have := h.low j q hj this
    omega
  ·have := h.high
   have := le_topOf (List.mem_of_getElem? hi)
   omega
end
end Go.Proofs.YtlhkeohcickiaaaGreatDoor.E
namespace Go.Proofs.YtlhkeohcickiaaaGreatDoor.E
open Go.ChangeMaps (setBlock)
section
open Go.RowKit Go.Proofs.YtlhkeohcickiaaaGreatDoor.H Go.Proofs.YtlhkeohcickiaaaGreatDoorW.PrintWords Go.Proofs.YtlhkeohcickiaaaGreatDoorW.PrintLast Go.Proofs.YtlhkeohcickiaaaGreatDoorW.PrintMore
def toC (x : S25) : Prot.Cl ByteArray := ⟨x.f0, x.f1, x.f2, x.f3, x.f4, x.f5⟩
def okC (x : S25) : Bool := okB x.f0 x.f1 x.f2 x.f3 x.f4 x.f5
theorem emb_get (m : List (ByteArray × Nat)) (s : ByteArray) : (mget (emb m) s).getD (.int .i64 0) = .int .i64 (Prot.get m s : Nat) := by
 induction m with
 | nil => rfl
 | cons p l ih =>
  obtain ⟨y, n⟩ := p
  by_cases h : y = s
  ·simp [emb, mget, Prot.get, h]
  ·have h' : ¬ s = y := fun e => h e.symm
   simp only [emb, List.map_cons, mget, Prot.get, h, h', if_false]
   exact ih
theorem emb_put (m : List (ByteArray × Nat)) (s : ByteArray) (n : Nat) : emb (Prot.put m s n) = mput (emb m) s (.int .i64 (n : Nat)) := by
 induction m with
 | nil => rfl
 | cons p l ih =>
  obtain ⟨y, k⟩ := p
  by_cases h : y = s
  ·subst h; simp [emb, mput, Prot.put]
  ·have h' : ¬ s = y := fun e => h e.symm
   simp only [emb, List.map_cons, mput, Prot.put, h, h', if_false] at ih ⊢
   rw [← ih]
structure BookAt (W : World) (b r : Nat) (sl : Value) (m : List (ByteArray × Nat)) (top : Int) : Prop where
 blk : W.heap[b]? = some (.cells #[sl, .map (some r), .int .i64 top] 68 (0, 0))
 map : H.MapAt H.encS W r (emb m)
theorem BookAt.ne {W : World} {b r : Nat} {sl : Value} {m : List (ByteArray × Nat)} {top : Int} (h : BookAt W b r sl m top) : b ≠ r := by
 rintro rfl
 have h1 := h.blk
 have h2 := h.map.out
 rw [h1] at h2
 cases h2
theorem BookAt.lt {W : World} {b r : Nat} {sl : Value} {m : List (ByteArray × Nat)} {top : Int} (h : BookAt W b r sl m top) : b < W.heap.size ∧ r < W.heap.size := ⟨(Array.getElem?_eq_some_iff.1 h.blk).1, h.map.lt⟩
theorem BookAt.below {W W' : World} {b r : Nat} {sl : Value} {m : List (ByteArray × Nat)} {top : Int} (h : BookAt W b r sl m top) (hb : Below W.heap.size W W') : BookAt W' b r sl m top :=
 ⟨(hb.block b h.lt.1).trans h.blk, h.map.below hb h.lt.2⟩
theorem BookAt.cell {W : World} {b r : Nat} {sl : Value} {m : List (ByteArray × Nat)} {top : Int} (h : BookAt W b r sl m top) :
  W.cell? ⟨b, 0, none⟩ = some sl ∧ W.cell? ⟨b, 1, none⟩ = some (.map (some r)) ∧ W.cell? ⟨b, 2, none⟩ = some (.int .i64 top) ∧ W.frozen? ⟨b, 2, none⟩ = false := by
 refine ⟨?_, ?_, ?_, ?_⟩
 ·unfold World.cell?; rw [h.blk]; rfl
 ·unfold World.cell?; rw [h.blk]; rfl
 ·unfold World.cell?; rw [h.blk]; rfl
 ·unfold World.frozen?; rw [h.blk]; rfl
theorem BookAt.putMap {W : World} {b r : Nat} {sl : Value} {m : List (ByteArray × Nat)} {top : Int} (h : BookAt W b r sl m top) (m' : List (ByteArray × Nat)) : BookAt (putMap H.encS W r (emb m')) b r sl m' top :=
 ⟨(putMap_heap_other _ h.ne).trans h.blk, h.map.put _⟩
theorem BookAt.drew {W : World} {b r : Nat} {sl : Value} {m : List (ByteArray × Nat)} {top : Int} (h : BookAt W b r sl m top) : BookAt W.drew b r sl m top := ⟨h.blk, h.map⟩
def firstBad : List S25 → Nat → Option Nat
 | [], _ => none
 | x :: l, i => if okC x then firstBad l (i + 1) else some i
def boundOf (l : List S25) : Except (Int × Int) (List (ByteArray × Nat)) :=
 if 64 < l.length then .error (-1, 3)
 else match firstBad l 0 with
  | some i => .error ((i : Nat), 2)
  | none => match Prot.levels (l.map toC) with
   | none => .error (-1, 9)
   | some m => .ok m
def refused (a b : Int) : Ending := .panicked [{ v := .iface 101 (.agg #[.int .i64 a, .int .i64 b]), recovered := false }]
def BoundPost (w : World) (A : Option Addr) (c : Nat) (l : List S25) (e : Ending) (W : World) : Prop :=
 Below w.heap.size w W ∧ match boundOf l with
  | .error (a, b) => e = refused a b
  | .ok m => ∃ b r : Nat, e = .returned (.pointer (some ⟨b, 0, none⟩)) ∧ BookAt W b r (.slice A l.length c) m (topOf m) ∧ w.heap.size ≤ b ∧ w.heap.size ≤ r
theorem BookAt.of {W W' : World} {b r : Nat} {sl : Value} {m : List (ByteArray × Nat)} {top : Int} (h : BookAt W b r sl m top) (e1 : W'.heap[b]? = W.heap[b]?) (e2 : W'.heap[r]? = W.heap[r]?) : BookAt W' b r sl m top :=
 ⟨e1.trans h.blk, h.map.of_heap e2⟩
theorem BookAt.setTop {W : World} {b r : Nat} {sl : Value} {m : List (ByteArray × Nat)} {top : Int} (h : BookAt W b r sl m top) (t : Int) : BookAt (W.setCell ⟨b, 2, none⟩ (.int .i64 t)) b r sl m t := by
 refine ⟨?_, h.map.of_heap (Below.heap_setCell _ _ _ _ (Ne.symm h.ne))⟩
 simp only [World.setCell, Array.getElem?_modify, if_true, h.blk]
 rfl
theorem if_max (a b : Nat) : Value.int .i64 (if a < b then (b : Int) else (a : Int)) = Value.int .i64 ((max a b : Nat) : Int) := by
 congr 1
 split <;> omega
theorem if_max1 (a b : Nat) : Value.int .i64 (if (a : Int) < (b : Int) + 1 then (b : Int) + 1 else (a : Int)) = Value.int .i64 ((max a (b + 1) : Nat) : Int) := by
 congr 1
 split <;> omega
theorem BookAt.put2 {W : World} {b r : Nat} {sl : Value} {m : List (ByteArray × Nat)} {top : Int} (h : BookAt W b r sl m top) (m1 : List (ByteArray × Value)) (m2 : List (ByteArray × Nat)) : BookAt (H.putMap H.encS (H.putMap H.encS W r m1) r (emb m2)) b r sl m2 top :=
 ⟨(putMap_heap_other _ h.ne).trans ((putMap_heap_other _ h.ne).trans h.blk), (h.map.put _).put _⟩
theorem rdT_at (l : List S25) (k : Nat) (h : k < l.length) : rd_T25 l (k : Int) = l[k] := by
 simp [rd_T25, List.getD_eq_getElem?_getD, List.getElem?_eq_getElem h]
theorem pass_cons (len : Nat) (cs : List S25) (j : Nat) (h : j < cs.length) (m : List (ByteArray × Nat)) (b : Bool) : Prot.passL len ((cs.map toC).drop j) m b =
  if len < Prot.wants m (toC (rd_T25 cs (j : Int))) then none
  else if Prot.get m (rd_T25 cs (j : Int)).f5 < Prot.wants m (toC (rd_T25 cs (j : Int))) then Prot.passL len ((cs.map toC).drop (j + 1)) (Prot.put m (rd_T25 cs (j : Int)).f5 (Prot.wants m (toC (rd_T25 cs (j : Int))))) true
  else Prot.passL len ((cs.map toC).drop (j + 1)) m b := by
 have h' : j < (cs.map toC).length := by simpa using h
 rw [List.drop_eq_getElem_cons h', rdT_at cs j h, List.getElem_map]
 rfl
theorem firstBad_yes (l : List S25) (k : Nat) (h : k < l.length) (ho : okC (rd_T25 l (k : Int)) = true) : firstBad (l.drop k) k = firstBad (l.drop (k + 1)) (k + 1) := by
 rw [List.drop_eq_getElem_cons h]
 rw [rdT_at l k h] at ho
 simp [firstBad, ho]
theorem firstBad_no (l : List S25) (k : Nat) (h : k < l.length) (ho : okC (rd_T25 l (k : Int)) = false) : firstBad (l.drop k) k = some k := by
 rw [List.drop_eq_getElem_cons h]
 rw [rdT_at l k h] at ho
 simp [firstBad, ho]
theorem ok_any (x : S25) (A3 : Option Addr) (c3 : Nat) (A4 : Option Addr) (c4 : Nat) (w : World) (l3 : x.f3.length ≤ c3) (g3 : Kd.C Kd.string w A3 x.f3.length x.f3) (l4 : x.f4.length ≤ c4) (g4 : Kd.C Kd.string w A4 x.f4.length x.f4) :
  Calls Tryz.prog 16 #[.agg #[.string x.f0, .int .i64 x.f1, .int .i64 x.f2, .slice A3 x.f3.length c3, .slice A4 x.f4.length c4, .string x.f5]] w fun e w' => e = .returned (.bool (okC x)) ∧ Below w.heap.size w w' :=
 protest_CheckClause.calls _ _ _ _ _ _ _ _ _ _ _ w g3 l3 g4 l4 rfl
attribute [local go_sem] max2_int max_two
set_option maxHeartbeats 2000000 in
set_option maxRecDepth 100000 in
theorem bound_calls (A : Option Addr) (c : Nat) (l : List S25) (w : World) (hr : Kd.C k25 w A l.length l) (hc : l.length ≤ c) :
  Calls Tryz.prog 39 #[.slice A l.length c] w (BoundPost w A c l) := by
 have hu25 := Tryz.underlying25
 have hm63 := hr.2.1
 have HR := Aside0.mk hr
 clear hr
 by_cases h64 : 64 < l.length
 ·have hb : boundOf l = .error (-1, 3) := by unfold boundOf; rw [if_pos h64]
  have HB := Aside0.mk hb
  have hd : decide ((l.length : Int) ≤ 64) = false := decide_eq_false (by omega)
  clear hb
  go_enter Tryz.func39, Tryz.ntmps39
  go_wp2_with (first | (go_at_call 42; (with_reducible refine (need_false _ _ _).mono ?_); rintro e w' ⟨rfl, rfl⟩))
  exact ⟨rfl, Below.refl _ _, by rw [HB.out]; rfl⟩
 ·have hbnd : boundOf l = match firstBad l 0 with
    | some i => .error ((i : Nat), 2)
    | none => match Prot.levels (l.map toC) with
     | none => .error (-1, 9)
     | some m => .ok m := by unfold boundOf; rw [if_neg h64]
  have HB := Aside0.mk hbnd
  have hd : decide ((l.length : Int) ≤ 64) = true := decide_eq_true (by omega)
  have H64 : l.length ≤ 64 := by omega
  clear hbnd h64
  go_enter Tryz.func39, Tryz.ntmps39
  go_wp2_with (first | (go_at_call 42; (with_reducible refine (need_true _ _ _).mono ?_); rintro e w' ⟨rfl, rfl⟩))
  go_loopw [22] (fun i wr => ∃ k : Nat, k ≤ l.length ∧ i = .int .i64 k ∧ Aside0 (Below w.heap.size w wr) ∧ Aside0 (firstBad l 0 = firstBad (l.drop k) k)) (fun i _ => l.length - (intOf i).toNat)
  case atStart => exact ⟨0, Nat.zero_le _, rfl, ⟨Below.refl _ _⟩, ⟨rfl⟩⟩
  case round =>
   obtain ⟨k, hk, rfl, HBl, HF⟩ := hrel
   by_cases hlt : k < l.length
   ·have HRr := Kd.C_below HR.out HBl.out
    obtain ⟨ad, A3, c3, A4, c4, rfl, x0, x1, x2, x3, x4, x5, l3, g3, l4, g4⟩ := at_T25 HRr (k : Int) (by omega) (by omega)
    have HL3 := Aside0.mk l3
    have HL4 := Aside0.mk l4
    have HG3 := Aside0.mk g3
    have HG4 := Aside0.mk g4
    clear l3 l4 g3 g4 HRr
    simp only [Int.toNat_natCast] at x0 x1 x2 x3 x4 x5
    go_wp2_with fail
    refine (ok_any (rd_T25 l (k : Int)) A3 c3 A4 c4 _ HL3.out (Kd.C_below HG3.out ((Below.refl _ _).alloc (Nat.le_refl _) _)) HL4.out (Kd.C_below HG4.out ((Below.refl _ _).alloc (Nat.le_refl _) _))).mono ?_
    rintro e w2 ⟨rfl, hb2⟩
    have HB2 : Aside0 (Below w.heap.size w w2) := ⟨below_then (below_alloc HBl.out _) (below_alloc HBl.out _).size hb2⟩
    clear hb2
    cases ho : okC (rd_T25 l (k : Int)) with
    | false =>
     have hfb := HF.out.trans (firstBad_no l k hlt ho)
     have HFB := Aside0.mk hfb
     clear hfb ho
     go_wp2_with (first | (go_at_call 42; (with_reducible refine (need_false _ _ _).mono ?_); rintro e w' ⟨rfl, rfl⟩))
     exact ⟨rfl, HB2.out, by rw [HB.out, HFB.out]; rfl⟩
    | true =>
     have hfb := HF.out.trans (firstBad_yes l k hlt ho)
     have HFB := Aside0.mk hfb
     clear hfb ho
     go_wp2_with (first | (go_at_call 42; (with_reducible refine (need_true _ _ _).mono ?_); rintro e w' ⟨rfl, rfl⟩))
     go_roundw
     case rel => exact ⟨k + 1, by omega, by go_num, HB2, HFB⟩
     case measure => simp [intOf]; omega
   ·obtain rfl : k = l.length := by omega
    have hfb : firstBad l 0 = none := by rw [HF.out, List.drop_length]; rfl
    have hb2 := HB.out
    rw [hfb] at hb2
    have HB3 := Aside0.mk hb2
    clear hfb hb2 HF HB
    have hmm := @run_makeMap Tryz.prog
    go_wp2
    obtain ⟨w1, rfl⟩ : ∃ w1 : World, w1 = wr := ⟨_, rfl⟩
    have hbk0 : BookAt ((w1.alloc (.map #[] 0)).alloc (.cells #[.slice A l.length c, .map (some w1.heap.size), .int .i64 0] 68)) (w1.heap.size + 1) w1.heap.size (.slice A l.length c) [] 0 :=
     ⟨by have := World.size_alloc (w := w1) (o := .map #[] 0); rw [← this]; exact heap_alloc_new _ _, (MapAt.new w1).alloc _⟩
    have HBK0 := Aside0.mk hbk0
    have HBe0 := Aside0.mk (below_alloc (below_alloc HBl.out (.map #[] 0)) (.cells #[.slice A l.length c, .map (some w1.heap.size), .int .i64 0] 68))
    have hwr := HBl.out.size
    clear hbk0
    go_loopg [6] ((l.map toC).length * (l.map toC).length + 2) (fun kq v6 w' => ∃ (b : Bool) (m : List (ByteArray × Nat)), v6 = .bool b ∧ Aside0 (BookAt w' (w1.heap.size + 1) w1.heap.size (.slice A l.length c) m 0) ∧ Aside0 (Below w.heap.size w w') ∧ Aside0 (∀ z, Prot.get m z ≤ l.length) ∧
     Aside0 (if b = true then Prot.levelsF (l.map toC) kq m = some (Prot.levels (l.map toC)) else Prot.levels (l.map toC) = some m))
    case atStart => exact ⟨true, [], rfl, HBK0, HBe0, ⟨fun z => Nat.zero_le _⟩, ⟨by rw [if_pos rfl]; exact Prot.levels_eq _⟩⟩
    case round =>
     obtain ⟨b6, m, rfl, HBK, HBW, HVB, HL⟩ := hrel
     cases b6 with
     | false =>
      have hlv : Prot.levels (l.map toC) = some m := by have := HL.out; simpa using this
      have HLV := Aside0.mk hlv
      clear hlv HL
      obtain ⟨q0, q1, q2, q3⟩ := HBK.out.cell
      have hlt0 := HBK.out.lt
      have hrg : (Instr.range 62 (.map (some w1.heap.size))).run Tryz.prog wr = .ok (.pointer (some ⟨wr.heap.size, 0, none⟩)) (wr.alloc (.mapIter (some w1.heap.size) m.length #[] m.length)) := by
       have h1 := HBK.out.map.out
       rw [emb_length] at h1
       exact run_range_map _ _ _ _ _ _ _ Tryz.underlying62 h1
      have hst0 : RangeSt (wr.alloc (.mapIter (some w1.heap.size) m.length #[] m.length)) w1.heap.size wr.heap.size m #[] 0 :=
       ⟨HBK.out.map.alloc _, heap_alloc_new _ _, fun i p _ hc => by simp at hc, Nat.zero_le _⟩
      have HST0 := Aside0.mk hst0
      have HBK0' : Aside0 (BookAt (wr.alloc (.mapIter (some w1.heap.size) m.length #[] m.length)) (w1.heap.size + 1) w1.heap.size (.slice A l.length c) m 0) := ⟨HBK.out.below ((Below.refl _ _).alloc (Nat.le_refl _) _)⟩
      have HBW0' : Aside0 (Below w.heap.size w (wr.alloc (.mapIter (some w1.heap.size) m.length #[] m.length))) := ⟨below_alloc HBW.out _⟩
      have hwsz := HBW.out.size
      obtain ⟨it, hit⟩ : ∃ it, it = wr.heap.size := ⟨_, rfl⟩
      clear hst0
      go_wp2
      rw [← hit] at HST0 hlt0 hwsz
      rw [← hit]
      clear hit hrg q0 q1 q2 q3
      go_loopg [] (leftOf (ents H.encS (emb m)) #[]).size (fun kq w' => ∃ (seen : Array Nat) (top : Nat), Aside0 ((leftOf (ents H.encS (emb m)) seen).size = kq) ∧ Aside0 (RangeSt w' w1.heap.size it m seen top) ∧ Aside0 (BookAt w' (w1.heap.size + 1) w1.heap.size (.slice A l.length c) m (top : Nat)) ∧ Aside0 (Below w.heap.size w w'))
      case atStart => exact ⟨#[], 0, ⟨rfl⟩, HST0, HBK0', HBW0'⟩
      case round =>
       obtain ⟨seen, top, HSZ, HST, HBK2, HBW2⟩ := hrel
       have hlt2 := HBK2.out.lt
       rcases range_step (P := Tryz.prog) HST.out 0 with ⟨h0, htop, hnext⟩ | ⟨p, seen', W2, hW2, hnext, hent, hst2, hless⟩
       ·have HTOP := Aside0.mk htop
        clear htop h0
        go_wp2
        go_ret
        refine ⟨HBW2.out, ?_⟩
        rw [HB3.out, HLV.out]
        exact ⟨w1.heap.size + 1, w1.heap.size, rfl, by rw [← HTOP.out]; exact HBK2.out, by omega, by omega⟩
       ·have hheap : W2.heap = wr.heap := by rcases hW2 with rfl | rfl <;> rfl
        have hbw5 : Below w.heap.size w (setBlock W2 it (.mapIter (some w1.heap.size) m.length seen' m.length)) := by
         refine below_setBlock ?_ (by omega) _
         rcases hW2 with rfl | rfl
         ·exact HBW2.out
         ·exact HBW2.out.drew
        have hbk5 : BookAt (setBlock W2 it (.mapIter (some w1.heap.size) m.length seen' m.length)) (w1.heap.size + 1) w1.heap.size (.slice A l.length c) m (top : Nat) :=
         HBK2.out.of ((setBlock_other _ _ _ (by omega)).trans (by rw [hheap])) ((setBlock_other _ _ _ (by omega)).trans (by rw [hheap]))
        clear hheap hW2
        generalize hW5 : setBlock W2 it (.mapIter (some w1.heap.size) m.length seen' m.length) = W5 at hnext hent hst2 hbw5 hbk5
        clear hW5
        obtain ⟨q0, q1, q2, q3⟩ := hbk5.cell
        have HBW5 := Aside0.mk hbw5
        have HBK5 := Aside0.mk hbk5
        have HST5 := Aside0.mk hst2
        have HLESS := Aside0.mk hless
        clear hbw5 hbk5 hst2 hless
        have hst6 : ∀ v, RangeSt (W5.setCell ⟨w1.heap.size + 1, 2, none⟩ v) w1.heap.size it m seen' (max top p.2) := fun v =>
         ⟨HST5.out.map.of_heap (Below.heap_setCell _ _ _ _ (by show w1.heap.size ≠ w1.heap.size + 1; omega)), (Below.heap_setCell _ _ _ _ (by show it ≠ w1.heap.size + 1; omega)).trans HST5.out.iter, HST5.out.low, HST5.out.high⟩
        have HST6 := Aside0.mk hst6
        clear hst6
        have hsz := HSZ.out
        have HSZ2 : Aside0 ((leftOf (ents H.encS (emb m)) seen').size < gk) := ⟨by have := HLESS.out; omega⟩
        clear hsz HSZ HLESS
        rcases Nat.lt_or_ge top p.2 with hmx | hmx
        ·have hmx2 : max top p.2 = p.2 := by omega
         have HMX := Aside0.mk hmx2
         clear hmx2
         go_wp2
         go_roundg (leftOf (ents H.encS (emb m)) seen').size
         case rel => exact ⟨seen', p.2, ⟨rfl⟩, ⟨by have := HST6.out (.int .i64 (p.2 : Nat)); rwa [HMX.out] at this⟩, ⟨HBK5.out.setTop _⟩, ⟨HBW5.out.setCell (by show w.heap.size ≤ w1.heap.size + 1; omega) _⟩⟩
         case measure => exact HSZ2.out
        ·have hmx2 : max top p.2 = top := by omega
         have hmx3 : ¬ top < p.2 := by omega
         have HMX := Aside0.mk hmx2
         clear hmx2
         go_wp2
         go_roundg (leftOf (ents H.encS (emb m)) seen').size
         case rel => exact ⟨seen', top, ⟨rfl⟩, ⟨by have := HST6.out (.int .i64 (top : Nat)); rwa [HMX.out] at this⟩, ⟨HBK5.out.setTop _⟩, ⟨HBW5.out.setCell (by show w.heap.size ≤ w1.heap.size + 1; omega) _⟩⟩
         case measure => exact HSZ2.out
     | true =>
      have hlv : Prot.levelsF (l.map toC) gk m = some (Prot.levels (l.map toC)) := by have := HL.out; simpa using this
      cases gk with
      | zero => exact absurd hlv (by simp [Prot.levelsF])
      | succ k1 =>
       have HLV := Aside0.mk hlv
       clear hlv HL
       go_wp2
       obtain ⟨RES, hRES⟩ : ∃ RES, Prot.passL (l.map toC).length (l.map toC) m false = RES := ⟨_, rfl⟩
       have HRES := Aside0.mk hRES
       clear hRES
       go_loopw [6, 39] (fun v6 v39 w' => ∃ (more : Bool) (j : Nat) (m' : List (ByteArray × Nat)), v6 = .bool more ∧ v39 = .int .i64 j ∧ j ≤ l.length ∧ Aside0 (BookAt w' (w1.heap.size + 1) w1.heap.size (.slice A l.length c) m' 0) ∧ Aside0 (Below w.heap.size w w') ∧ Aside0 (∀ z, Prot.get m' z ≤ l.length) ∧
        Aside0 (Prot.passL (l.map toC).length ((l.map toC).drop j) m' more = RES)) (fun _ v39 _ => l.length - (intOf v39).toNat)
       case atStart => exact ⟨false, 0, m, rfl, rfl, Nat.zero_le _, HBK, HBW, HVB, HRES⟩
       case round =>
        obtain ⟨more, j, m', rfl, rfl, hj, HBK2, HBW2, HVB2, HP⟩ := hrel
        by_cases hlt : j < l.length
        ·have HRr := Kd.C_below HR.out HBW2.out
         obtain ⟨ad, A3, c3, A4, c4, rfl, x0, x1, x2, x3, x4, x5, l3, g3, l4, g4⟩ := at_T25 HRr (j : Int) (by omega) (by omega)
         have HL3 := Aside0.mk l3
         have HL4 := Aside0.mk l4
         have HG3 := Aside0.mk g3
         have HG4 := Aside0.mk g4
         clear l3 l4 g3 g4 HRr
         simp only [Int.toNat_natCast] at x0 x1 x2 x3 x4 x5
         obtain ⟨x, hx⟩ : ∃ x, x = rd_T25 l (j : Int) := ⟨_, rfl⟩
         rw [← hx] at x0 x1 x2 x3 x4 x5 HL3 HL4 HG3 HG4
         have HX := Aside0.mk hx
         clear hx
         have hw2 := HBW2.out.size
         obtain ⟨q0, q1, q2, q3⟩ := HBK2.out.cell
         have hlt2 := HBK2.out.lt
         have hlk : ∀ n, (Instr.lookup 62 (.map (some w1.heap.size)) (.string x.f5) false).run Tryz.prog ((wr.alloc (.cells #[.string x.f0, .int .i64 x.f1, .int .i64 x.f2, .slice A3 x.f3.length c3, .slice A4 x.f4.length c4, .string x.f5] 25)).drewN n) = .ok (.int .i64 (Prot.get m' x.f5 : Nat)) ((wr.alloc (.cells #[.string x.f0, .int .i64 x.f1, .int .i64 x.f2, .slice A3 x.f3.length c3, .slice A4 x.f4.length c4, .string x.f5] 25)).drewN n) := fun n => by
          rw [← emb_get]
          exact run_lookup_at keyS Tryz.underlying62 Tryz.underlying9 ((HBK2.out.map.alloc _).drewN n) zero3 _
         go_wp2
         go_quiet (fail)
         clear hlk
         generalize hW3 : World.drewN _ _ = W3
         have HK3 : Aside0 (Kept25 wr #[.string x.f0, .int .i64 x.f1, .int .i64 x.f2, .slice A3 x.f3.length c3, .slice A4 x.f4.length c4, .string x.f5] W3) := ⟨by rw [← hW3]; exact (Kept25.mk' _ _).drewN _⟩
         have HBK3 : Aside0 (BookAt W3 (w1.heap.size + 1) w1.heap.size (.slice (some ad) l.length c) m' 0) := ⟨HBK2.out.below HK3.out.2⟩
         have HBW3 : Aside0 (Below w.heap.size w W3) := ⟨below_then HBW2.out HBW2.out.size HK3.out.2⟩
         clear hW3 q0 q1 q2 q3
         obtain ⟨q0, q1, q2, q3⟩ := HBK3.out.cell
         have y3 := HK3.out.cell 3
         have y4 := HK3.out.cell 4
         have y5 := HK3.out.cell 5
         simp only [List.getElem?_toArray, List.getElem?_cons_zero, List.getElem?_cons_succ] at y3 y4 y5
         clear x0 x1 x2 x3 x4 x5
         obtain ⟨T1, hT1⟩ : ∃ T1, Prot.foldIf m' x.f3 (Prot.get m' x.f5) = T1 := ⟨_, rfl⟩
         have HT1 := Aside0.mk hT1
         clear hT1
         have hl3 := HG3.out.2.1
         have hl4 := HG4.out.2.1
         go_wp2
         go_loop [9, 53] (fun v9 v53 => ∃ (n i : Nat), v9 = .int .i64 n ∧ v53 = .int .i64 i ∧ i ≤ x.f3.length ∧ Aside0 (Prot.foldIf m' (x.f3.drop i) n = T1)) (fun _ v53 => x.f3.length - (intOf v53).toNat)
         case atStart => exact ⟨_, 0, rfl, rfl, Nat.zero_le _, HT1⟩
         case round =>
          obtain ⟨n, i, rfl, rfl, hi, HN⟩ := hrel
          by_cases hlt3 : i < x.f3.length
          ·have HG3' := Kd.C_below HG3.out HK3.out.2
           obtain ⟨ad3, rfl, hcell⟩ := Kd.at_string HG3' (i : Int) (by omega) (by omega)
           simp only [Int.toNat_natCast] at hcell
           clear HG3'
           have hlk : (Instr.lookup 62 (.map (some w1.heap.size)) (.string (rdOf ByteArray.empty x.f3 (i : Int))) false).run Tryz.prog W3 = .ok (.int .i64 (Prot.get m' (rdOf ByteArray.empty x.f3 (i : Int)) : Nat)) W3 := by
            rw [← emb_get]
            exact run_lookup_at keyS Tryz.underlying62 Tryz.underlying9 HBK3.out.map zero3 _
           have hst : Prot.foldIf m' (x.f3.drop i) n = Prot.foldIf m' (x.f3.drop (i + 1)) (max n (Prot.get m' (rdOf ByteArray.empty x.f3 (i : Int)))) := by
            rw [List.drop_eq_getElem_cons hlt3, rdOf_nat, List.getD_eq_getElem?_getD, List.getElem?_eq_getElem hlt3]
            rfl
           have HST := Aside0.mk (hst.symm.trans HN.out)
           clear hst
           go_wp2
           go_round
           case rel => exact ⟨max n (Prot.get m' (rdOf ByteArray.empty x.f3 (i : Int))), i + 1, if_max _ _, by go_num, by omega, HST⟩
           case measure => simp [intOf]; omega
          ·obtain rfl : i = x.f3.length := by omega
           have hn : n = T1 := by have := HN.out; rwa [List.drop_length] at this
           subst hn
           clear HN
           obtain ⟨T2, hT2⟩ : ∃ T2, Prot.foldUn m' x.f4 n = T2 := ⟨_, rfl⟩
           have HT2 := Aside0.mk hT2
           clear hT2
           go_wp2
           go_loop [9, 69] (fun v9 v69 => ∃ (n i : Nat), v9 = .int .i64 n ∧ v69 = .int .i64 i ∧ i ≤ x.f4.length ∧ Aside0 (Prot.foldUn m' (x.f4.drop i) n = T2)) (fun _ v69 => x.f4.length - (intOf v69).toNat)
           case atStart => exact ⟨_, 0, rfl, rfl, Nat.zero_le _, HT2⟩
           case round =>
            obtain ⟨n5, i, rfl, rfl, hi5, HN⟩ := hrel
            by_cases hlt5 : i < x.f4.length
            ·have HG4' := Kd.C_below HG4.out HK3.out.2
             obtain ⟨ad4, rfl, hcell⟩ := Kd.at_string HG4' (i : Int) (by omega) (by omega)
             simp only [Int.toNat_natCast] at hcell
             clear HG4'
             have hgb := HVB2.out (rdOf ByteArray.empty x.f4 (i : Int))
             have hlk : (Instr.lookup 62 (.map (some w1.heap.size)) (.string (rdOf ByteArray.empty x.f4 (i : Int))) false).run Tryz.prog W3 = .ok (.int .i64 (Prot.get m' (rdOf ByteArray.empty x.f4 (i : Int)) : Nat)) W3 := by
              rw [← emb_get]
              exact run_lookup_at keyS Tryz.underlying62 Tryz.underlying9 HBK3.out.map zero3 _
             have hst : Prot.foldUn m' (x.f4.drop i) n5 = Prot.foldUn m' (x.f4.drop (i + 1)) (max n5 (Prot.get m' (rdOf ByteArray.empty x.f4 (i : Int)) + 1)) := by
              rw [List.drop_eq_getElem_cons hlt5, rdOf_nat, List.getD_eq_getElem?_getD, List.getElem?_eq_getElem hlt5]
              rfl
             have HST := Aside0.mk (hst.symm.trans HN.out)
             clear hst
             go_wp2
             go_round
             case rel => exact ⟨max n5 (Prot.get m' (rdOf ByteArray.empty x.f4 (i : Int)) + 1), i + 1, if_max1 _ _, by go_num, by omega, HST⟩
             case measure => simp [intOf]; omega
            ·obtain rfl : i = x.f4.length := by omega
             have hn : n5 = T2 := by have := HN.out; rwa [List.drop_length] at this
             subst hn
             clear HN
             have hwants : Prot.wants m' (toC x) = n5 := by
              show Prot.foldUn m' x.f4 (Prot.foldIf m' x.f3 (Prot.get m' x.f5)) = n5
              rw [HT1.out, HT2.out]
             have hpc := pass_cons (l.map toC).length l j hlt m' more
             rw [HP.out, ← HX.out, hwants] at hpc
             have HPC := Aside0.mk hpc
             clear hpc hwants HP HT1 HT2
             go_wp2_with fail
             by_cases hle : n5 ≤ l.length
             ·have hd1 : decide (n5 ≤ l.length) = true := decide_eq_true hle
              rw [hd1]
              have hpc := HPC.out
              rw [if_neg (by simp; omega)] at hpc
              clear HPC hd1
              refine (need_true _ _ _).mono ?_
              rintro e w4 ⟨rfl, rfl⟩
              have hlk : ∀ n, (Instr.lookup 62 (.map (some w1.heap.size)) (.string x.f5) false).run Tryz.prog (W3.drewN n) = .ok (.int .i64 (Prot.get m' x.f5 : Nat)) (W3.drewN n) := fun n => by
               rw [← emb_get]
               exact run_lookup_at keyS Tryz.underlying62 Tryz.underlying9 (HBK3.out.map.drewN n) zero3 _
              by_cases hgt : Prot.get m' x.f5 < n5
              ·rw [if_pos hgt] at hpc
               have HPC := Aside0.mk hpc
               clear hpc
               go_wp2
               go_quiet (fail)
               clear hlk q0 q1 q2 q3 y3 y4 y5
               generalize hW4 : World.drewN _ _ = W4
               have HK4 : Aside0 (Kept25 wr #[.string x.f0, .int .i64 x.f1, .int .i64 x.f2, .slice A3 x.f3.length c3, .slice A4 x.f4.length c4, .string x.f5] W4) := ⟨by rw [← hW4]; exact HK3.out.drewN _⟩
               have HBK4 : Aside0 (BookAt W4 (w1.heap.size + 1) w1.heap.size (.slice (some ad) l.length c) m' 0) := ⟨by rw [← hW4]; exact HBK3.out.below (pw_below_drewN (Below.refl _ _) _)⟩
               have HBW4 : Aside0 (Below w.heap.size w W4) := ⟨by rw [← hW4]; exact pw_below_drewN HBW3.out _⟩
               clear hW4
               obtain ⟨q0, q1, q2, q3⟩ := HBK4.out.cell
               have y5 := HK4.out.cell 5
               simp only [List.getElem?_toArray, List.getElem?_cons_zero, List.getElem?_cons_succ] at y5
               have hme : (Instr.mapEntry 62 (.map (some w1.heap.size)) (.string x.f5)).run Tryz.prog W4.drew = .ok (.tuple #[(mget (emb m') x.f5).getD (.int .i64 0), .int .i64 (place (emb m') x.f5 : Nat)]) (H.putMap H.encS W4.drew w1.heap.size (entered (emb m') x.f5 (.int .i64 0))) :=
                run_mapEntry_at keyS Tryz.underlying62 Tryz.underlying9 HBK4.out.map.drew zero3 _
               have hes : (Instr.entryStore 62 (.map (some w1.heap.size)) (.int .i64 (place (emb m') x.f5 : Nat)) (.int .i64 (n5 : Nat))).run Tryz.prog (H.putMap H.encS W4.drew w1.heap.size (entered (emb m') x.f5 (.int .i64 0))) = .ok () (H.putMap H.encS (H.putMap H.encS W4.drew w1.heap.size (entered (emb m') x.f5 (.int .i64 0))) w1.heap.size (mput (emb m') x.f5 (.int .i64 (n5 : Nat)))) :=
                run_entryStore_entered (HBK4.out.map.drew.put _) _
               go_wp2
               go_region
               have hbk5 : BookAt (H.putMap H.encS (H.putMap H.encS W4.drew w1.heap.size (entered (emb m') x.f5 (.int .i64 0))) w1.heap.size (mput (emb m') x.f5 (.int .i64 (n5 : Nat)))) (w1.heap.size + 1) w1.heap.size (.slice (some ad) l.length c) (Prot.put m' x.f5 n5) 0 := by
                rw [← emb_put]; exact HBK4.out.drew.put2 _ _
               have hbw5 : Below w.heap.size w (H.putMap H.encS (H.putMap H.encS W4.drew w1.heap.size (entered (emb m') x.f5 (.int .i64 0))) w1.heap.size (mput (emb m') x.f5 (.int .i64 (n5 : Nat)))) :=
                below_putMap (below_putMap HBW4.out.drew hwr _) hwr _
               have hvb5 : ∀ z, Prot.get (Prot.put m' x.f5 n5) z ≤ l.length := by
                intro z
                by_cases e : x.f5 = z
                ·subst e; rw [Prot.get_put_same]; exact hle
                ·rw [Prot.get_put_other _ _ e]; exact HVB2.out z
               have HBK5 := Aside0.mk hbk5
               have HBW5 := Aside0.mk hbw5
               have HVB5 := Aside0.mk hvb5
               clear hbk5 hbw5 hvb5 hme hes
               go_wp2
               go_roundw
               case rel => exact ⟨true, j + 1, Prot.put m' x.f5 n5, rfl, by go_num, by omega, HBK5, HBW5, HVB5, ⟨HPC.out.symm⟩⟩
               case measure => simp [intOf]; omega
              ·rw [if_neg hgt] at hpc
               have HPC := Aside0.mk hpc
               clear hpc
               go_wp2
               go_quiet (fail)
               clear hlk
               go_wp2
               go_roundw
               case rel => exact ⟨more, j + 1, m', rfl, by go_num, by omega, ⟨HBK3.out.below (pw_below_drewN (Below.refl _ _) _)⟩, ⟨pw_below_drewN HBW3.out _⟩, HVB2, ⟨HPC.out.symm⟩⟩
               case measure => simp [intOf]; omega
             ·have hd1 : decide (n5 ≤ l.length) = false := decide_eq_false hle
              rw [hd1]
              have hpc := HPC.out
              rw [if_pos (by simp; omega)] at hpc
              have hlv := HLV.out
              unfold Prot.levelsF at hlv
              rw [HRES.out, hpc] at hlv
              have hnone : Prot.levels (l.map toC) = none := by simpa using hlv.symm
              have HNN := Aside0.mk hnone
              clear hpc hlv hnone hd1 HPC
              refine (need_false _ _ _).mono ?_
              rintro e w4 ⟨rfl, rfl⟩
              go_wp2
              exact ⟨rfl, HBW3.out, by rw [HB3.out, HNN.out]; rfl⟩
        ·obtain rfl : j = l.length := by omega
         have hres : RES = some (m', more) := by
          have h := HP.out
          rw [List.drop_of_length_le (by simp)] at h
          exact h.symm
         have hlv := HLV.out
         unfold Prot.levelsF at hlv
         rw [HRES.out, hres] at hlv
         have hnext : if more = true then Prot.levelsF (l.map toC) k1 m' = some (Prot.levels (l.map toC)) else Prot.levels (l.map toC) = some m' := by
          cases more with
          | true => simpa using hlv
          | false => simpa using hlv.symm
         have HNX := Aside0.mk hnext
         clear hlv hnext hres HP HLV HRES
         go_wp2
         go_roundg k1
         case rel => exact ⟨more, m', rfl, HBK2, HBW2, HVB2, HNX⟩
         case measure => omega
end
end Go.Proofs.YtlhkeohcickiaaaGreatDoor.E

