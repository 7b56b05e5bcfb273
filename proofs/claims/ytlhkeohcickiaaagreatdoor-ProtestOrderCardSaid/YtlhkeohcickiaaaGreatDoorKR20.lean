/- Part 20 of 31 of the proof of ProtestOrder: lemmas, without conditions. -/
import Derived.Test.YtlhkeohcickiaaaGreatDoorKR19
import Derived.Maps.RangeRun
set_option linter.all false
namespace Go.Proofs.YtlhkeohcickiaaaGreatDoor.E
open Go.ChangeMaps (setBlock)
section
open Go.RowKit Go.Proofs.YtlhkeohcickiaaaGreatDoor.H Go.Proofs.YtlhkeohcickiaaaGreatDoorW.PrintWords Go.Proofs.YtlhkeohcickiaaaGreatDoorW.PrintLast Go.Proofs.YtlhkeohcickiaaaGreatDoorW.PrintMore
def toC (x : S25) : Prot.Cl ByteArray := ⟨x.f0, x.f1, x.f2, x.f3, x.f4, x.f5⟩
def okC (x : S25) : Bool := okB x.f0 x.f1 x.f2 x.f3 x.f4 x.f5
theorem emb_get (m : List (ByteArray × Nat)) (s : ByteArray) : (mget (emb m) s).getD (.int .i64 0) = .int .i64 (Prot.get m s : Nat) := by
 induction m with
 | nil => rfl
 | cons p l ih =>
  obtain ⟨y, n⟩ := p
  by_cases h : y = s
  ·simp [emb, mget, Prot.get, h]
  ·have h' : ¬ s = y := fun e => h e.symm
   simp only [emb, List.map_cons, mget, Prot.get, h, h', if_false]
   exact ih
theorem emb_put (m : List (ByteArray × Nat)) (s : ByteArray) (n : Nat) : emb (Prot.put m s n) = mput (emb m) s (.int .i64 (n : Nat)) := by
 induction m with
 | nil => rfl
 | cons p l ih =>
  obtain ⟨y, k⟩ := p
  by_cases h : y = s
  ·subst h; simp [emb, mput, Prot.put]
  ·have h' : ¬ s = y := fun e => h e.symm
   simp only [emb, List.map_cons, mput, Prot.put, h, h', if_false] at ih ⊢
   rw [← ih]
structure BookAt (W : World) (b r : Nat) (sl : Value) (m : List (ByteArray × Nat)) (top : Int) : Prop where
 blk : W.heap[b]? = some (.cells #[sl, .map (some r), .int .i64 top] 68 (0, 0))
 map : H.MapAt H.encS W r (emb m)
theorem BookAt.ne {W : World} {b r : Nat} {sl : Value} {m : List (ByteArray × Nat)} {top : Int} (h : BookAt W b r sl m top) : b ≠ r := by
 rintro rfl
 have h1 := h.blk
 have h2 := h.map.out
 rw [h1] at h2
 cases h2
theorem BookAt.lt {W : World} {b r : Nat} {sl : Value} {m : List (ByteArray × Nat)} {top : Int} (h : BookAt W b r sl m top) : b < W.heap.size ∧ r < W.heap.size := ⟨(Array.getElem?_eq_some_iff.1 h.blk).1, h.map.lt⟩
theorem BookAt.below {W W' : World} {b r : Nat} {sl : Value} {m : List (ByteArray × Nat)} {top : Int} (h : BookAt W b r sl m top) (hb : Below W.heap.size W W') : BookAt W' b r sl m top :=
 ⟨(hb.block b h.lt.1).trans h.blk, h.map.below hb h.lt.2⟩
theorem BookAt.cell {W : World} {b r : Nat} {sl : Value} {m : List (ByteArray × Nat)} {top : Int} (h : BookAt W b r sl m top) :
  W.cell? ⟨b, 0, none⟩ = some sl ∧ W.cell? ⟨b, 1, none⟩ = some (.map (some r)) ∧ W.cell? ⟨b, 2, none⟩ = some (.int .i64 top) ∧ W.frozen? ⟨b, 2, none⟩ = false := by
 refine ⟨?_, ?_, ?_, ?_⟩
 ·unfold World.cell?; rw [h.blk]; rfl
 ·unfold World.cell?; rw [h.blk]; rfl
 ·unfold World.cell?; rw [h.blk]; rfl
 ·unfold World.frozen?; rw [h.blk]; rfl
theorem BookAt.putMap {W : World} {b r : Nat} {sl : Value} {m : List (ByteArray × Nat)} {top : Int} (h : BookAt W b r sl m top) (m' : List (ByteArray × Nat)) : BookAt (putMap H.encS W r (emb m')) b r sl m' top :=
 ⟨(putMap_heap_other _ h.ne).trans h.blk, h.map.put _⟩
theorem BookAt.drew {W : World} {b r : Nat} {sl : Value} {m : List (ByteArray × Nat)} {top : Int} (h : BookAt W b r sl m top) : BookAt W.drew b r sl m top := ⟨h.blk, h.map⟩
def firstBad : List S25 → Nat → Option Nat
 | [], _ => none
 | x :: l, i => if okC x then firstBad l (i + 1) else some i
def boundOf (l : List S25) : Except (Int × Int) (List (ByteArray × Nat)) :=
 if 64 < l.length then .error (-1, 3)
 else match firstBad l 0 with
  | some i => .error ((i : Nat), 2)
  | none => match Prot.levels (l.map toC) with
   | none => .error (-1, 9)
   | some m => .ok m
def refused (a b : Int) : Ending := .panicked [{ v := .iface 101 (.agg #[.int .i64 a, .int .i64 b]), recovered := false }]
def BoundPost (w : World) (A : Option Addr) (c : Nat) (l : List S25) (e : Ending) (W : World) : Prop :=
 Below w.heap.size w W ∧ match boundOf l with
  | .error (a, b) => e = refused a b
  | .ok m => ∃ b r : Nat, e = .returned (.pointer (some ⟨b, 0, none⟩)) ∧ BookAt W b r (.slice A l.length c) m (topOf m) ∧ w.heap.size ≤ b ∧ w.heap.size ≤ r
theorem BookAt.of {W W' : World} {b r : Nat} {sl : Value} {m : List (ByteArray × Nat)} {top : Int} (h : BookAt W b r sl m top) (e1 : W'.heap[b]? = W.heap[b]?) (e2 : W'.heap[r]? = W.heap[r]?) : BookAt W' b r sl m top :=
 ⟨e1.trans h.blk, h.map.of_heap e2⟩
theorem BookAt.setTop {W : World} {b r : Nat} {sl : Value} {m : List (ByteArray × Nat)} {top : Int} (h : BookAt W b r sl m top) (t : Int) : BookAt (W.setCell ⟨b, 2, none⟩ (.int .i64 t)) b r sl m t := by
 refine ⟨?_, h.map.of_heap (Below.heap_setCell _ _ _ _ (Ne.symm h.ne))⟩
 simp only [World.setCell, Array.getElem?_modify, if_true, h.blk]
 rfl
theorem if_max (a b : Nat) : Value.int .i64 (if a < b then (b : Int) else (a : Int)) = Value.int .i64 ((max a b : Nat) : Int) := by
 congr 1
 split <;> omega
theorem if_max1 (a b : Nat) : Value.int .i64 (if (a : Int) < (b : Int) + 1 then (b : Int) + 1 else (a : Int)) = Value.int .i64 ((max a (b + 1) : Nat) : Int) := by
 congr 1
 split <;> omega
theorem BookAt.put2 {W : World} {b r : Nat} {sl : Value} {m : List (ByteArray × Nat)} {top : Int} (h : BookAt W b r sl m top) (m1 : List (ByteArray × Value)) (m2 : List (ByteArray × Nat)) : BookAt (H.putMap H.encS (H.putMap H.encS W r m1) r (emb m2)) b r sl m2 top :=
 ⟨(putMap_heap_other _ h.ne).trans ((putMap_heap_other _ h.ne).trans h.blk), (h.map.put _).put _⟩
theorem rdT_at (l : List S25) (k : Nat) (h : k < l.length) : rd_T25 l (k : Int) = l[k] := by
 simp [rd_T25, List.getD_eq_getElem?_getD, List.getElem?_eq_getElem h]
theorem pass_cons (len : Nat) (cs : List S25) (j : Nat) (h : j < cs.length) (m : List (ByteArray × Nat)) (b : Bool) : Prot.passL len ((cs.map toC).drop j) m b =
  if len < Prot.wants m (toC (rd_T25 cs (j : Int))) then none
  else if Prot.get m (rd_T25 cs (j : Int)).f5 < Prot.wants m (toC (rd_T25 cs (j : Int))) then Prot.passL len ((cs.map toC).drop (j + 1)) (Prot.put m (rd_T25 cs (j : Int)).f5 (Prot.wants m (toC (rd_T25 cs (j : Int))))) true
  else Prot.passL len ((cs.map toC).drop (j + 1)) m b := by
 have h' : j < (cs.map toC).length := by simpa using h
 rw [List.drop_eq_getElem_cons h', rdT_at cs j h, List.getElem_map]
 rfl
theorem firstBad_yes (l : List S25) (k : Nat) (h : k < l.length) (ho : okC (rd_T25 l (k : Int)) = true) : firstBad (l.drop k) k = firstBad (l.drop (k + 1)) (k + 1) := by
 rw [List.drop_eq_getElem_cons h]
 rw [rdT_at l k h] at ho
 simp [firstBad, ho]
theorem firstBad_no (l : List S25) (k : Nat) (h : k < l.length) (ho : okC (rd_T25 l (k : Int)) = false) : firstBad (l.drop k) k = some k := by
 rw [List.drop_eq_getElem_cons h]
 rw [rdT_at l k h] at ho
 simp [firstBad, ho]
theorem ok_any (x : S25) (A3 : Option Addr) (c3 : Nat) (A4 : Option Addr) (c4 : Nat) (w : World) (l3 : x.f3.length ≤ c3) (g3 : Kd.C Kd.string w A3 x.f3.length x.f3) (l4 : x.f4.length ≤ c4) (g4 : Kd.C Kd.string w A4 x.f4.length x.f4) :
  Calls Tryz.prog 16 #[.agg #[.string x.f0, .int .i64 x.f1, .int .i64 x.f2, .slice A3 x.f3.length c3, .slice A4 x.f4.length c4, .string x.f5]] w fun e w' => e = .returned (.bool (okC x)) ∧ Below w.heap.size w w' :=
 protest_CheckClause.calls _ _ _ _ _ _ _ _ _ _ _ w g3 l3 g4 l4 rfl
attribute [local go_sem] max2_int max_two
set_option maxHeartbeats 2000000 in
set_option maxRecDepth 100000 in
theorem bound_calls (A : Option Addr) (c : Nat) (l : List S25) (w : World) (hr : Kd.C k25 w A l.length l) (hc : l.length ≤ c) :
  Calls Tryz.prog 39 #[.slice A l.length c] w (BoundPost w A c l) := by
 have hu25 := Tryz.underlying25
 have hm63 := hr.2.1
 have HR := Aside0.mk hr
 clear hr
 by_cases h64 : 64 < l.length
 ·have hb : boundOf l = .error (-1, 3) := by unfold boundOf; rw [if_pos h64]
  have HB := Aside0.mk hb
  have hd : decide ((l.length : Int) ≤ 64) = false := decide_eq_false (by omega)
  clear hb
  go_enter Tryz.func39, Tryz.ntmps39
  go_wp2_with (first | (go_at_call 42; (with_reducible refine (need_false _ _ _).mono ?_); rintro e w' ⟨rfl, rfl⟩))
  exact ⟨rfl, Below.refl _ _, by rw [HB.out]; rfl⟩
 ·have hbnd : boundOf l = match firstBad l 0 with
    | some i => .error ((i : Nat), 2)
    | none => match Prot.levels (l.map toC) with
     | none => .error (-1, 9)
     | some m => .ok m := by unfold boundOf; rw [if_neg h64]
  have HB := Aside0.mk hbnd
  have hd : decide ((l.length : Int) ≤ 64) = true := decide_eq_true (by omega)
  have H64 : l.length ≤ 64 := by omega
  clear hbnd h64
  go_enter Tryz.func39, Tryz.ntmps39
  go_wp2_with (first | (go_at_call 42; (with_reducible refine (need_true _ _ _).mono ?_); rintro e w' ⟨rfl, rfl⟩))
  go_loopw [22] (fun i wr => ∃ k : Nat, k ≤ l.length ∧ i = .int .i64 k ∧ Aside0 (Below w.heap.size w wr) ∧ Aside0 (firstBad l 0 = firstBad (l.drop k) k)) (fun i _ => l.length - (intOf i).toNat)
  case atStart => exact ⟨0, Nat.zero_le _, rfl, ⟨Below.refl _ _⟩, ⟨rfl⟩⟩
  case round =>
   obtain ⟨k, hk, rfl, HBl, HF⟩ := hrel
   by_cases hlt : k < l.length
   ·have HRr := Kd.C_below HR.out HBl.out
    obtain ⟨ad, A3, c3, A4, c4, rfl, x0, x1, x2, x3, x4, x5, l3, g3, l4, g4⟩ := at_T25 HRr (k : Int) (by omega) (by omega)
    have HL3 := Aside0.mk l3
    have HL4 := Aside0.mk l4
    have HG3 := Aside0.mk g3
    have HG4 := Aside0.mk g4
    clear l3 l4 g3 g4 HRr
    simp only [Int.toNat_natCast] at x0 x1 x2 x3 x4 x5
    go_wp2_with fail
    refine (ok_any (rd_T25 l (k : Int)) A3 c3 A4 c4 _ HL3.out (Kd.C_below HG3.out ((Below.refl _ _).alloc (Nat.le_refl _) _)) HL4.out (Kd.C_below HG4.out ((Below.refl _ _).alloc (Nat.le_refl _) _))).mono ?_
    rintro e w2 ⟨rfl, hb2⟩
    have HB2 : Aside0 (Below w.heap.size w w2) := ⟨below_then (below_alloc HBl.out _) (below_alloc HBl.out _).size hb2⟩
    clear hb2
    cases ho : okC (rd_T25 l (k : Int)) with
    | false =>
     have hfb := HF.out.trans (firstBad_no l k hlt ho)
     have HFB := Aside0.mk hfb
     clear hfb ho
     go_wp2_with (first | (go_at_call 42; (with_reducible refine (need_false _ _ _).mono ?_); rintro e w' ⟨rfl, rfl⟩))
     exact ⟨rfl, HB2.out, by rw [HB.out, HFB.out]; rfl⟩
    | true =>
     have hfb := HF.out.trans (firstBad_yes l k hlt ho)
     have HFB := Aside0.mk hfb
     clear hfb ho
     go_wp2_with (first | (go_at_call 42; (with_reducible refine (need_true _ _ _).mono ?_); rintro e w' ⟨rfl, rfl⟩))
     go_roundw
     case rel => exact ⟨k + 1, by omega, by go_num, HB2, HFB⟩
     case measure => simp [intOf]; omega
   ·obtain rfl : k = l.length := by omega
    have hfb : firstBad l 0 = none := by rw [HF.out, List.drop_length]; rfl
    have hb2 := HB.out
    rw [hfb] at hb2
    have HB3 := Aside0.mk hb2
    clear hfb hb2 HF HB
    have hmm := @run_makeMap Tryz.prog
    go_wp2
    obtain ⟨w1, rfl⟩ : ∃ w1 : World, w1 = wr := ⟨_, rfl⟩
    have hbk0 : BookAt ((w1.alloc (.map #[] 0)).alloc (.cells #[.slice A l.length c, .map (some w1.heap.size), .int .i64 0] 68)) (w1.heap.size + 1) w1.heap.size (.slice A l.length c) [] 0 :=
     ⟨by have := World.size_alloc (w := w1) (o := .map #[] 0); rw [← this]; exact heap_alloc_new _ _, (MapAt.new w1).alloc _⟩
    have HBK0 := Aside0.mk hbk0
    have HBe0 := Aside0.mk (below_alloc (below_alloc HBl.out (.map #[] 0)) (.cells #[.slice A l.length c, .map (some w1.heap.size), .int .i64 0] 68))
    have hwr := HBl.out.size
    clear hbk0
    go_loopg [6] ((l.map toC).length * (l.map toC).length + 2) (fun kq v6 w' => ∃ (b : Bool) (m : List (ByteArray × Nat)), v6 = .bool b ∧ Aside0 (BookAt w' (w1.heap.size + 1) w1.heap.size (.slice A l.length c) m 0) ∧ Aside0 (Below w.heap.size w w') ∧ Aside0 (∀ z, Prot.get m z ≤ l.length) ∧
     Aside0 (if b = true then Prot.levelsF (l.map toC) kq m = some (Prot.levels (l.map toC)) else Prot.levels (l.map toC) = some m))
    case atStart => exact ⟨true, [], rfl, HBK0, HBe0, ⟨fun z => Nat.zero_le _⟩, ⟨by rw [if_pos rfl]; exact Prot.levels_eq _⟩⟩
    case round =>
     obtain ⟨b6, m, rfl, HBK, HBW, HVB, HL⟩ := hrel
     cases b6 with
     | false =>
      have hlv : Prot.levels (l.map toC) = some m := by have := HL.out; simpa using this
      have HLV := Aside0.mk hlv
      clear hlv HL
      obtain ⟨q0, q1, q2, q3⟩ := HBK.out.cell
      have hlt0 := HBK.out.lt
      have hrg : (Instr.range 62 (.map (some w1.heap.size))).run Tryz.prog wr = .ok (.pointer (some ⟨wr.heap.size, 0, none⟩)) (wr.alloc (.mapIter (some w1.heap.size) m.length #[] m.length)) := by
       have h1 := HBK.out.map.out
       rw [emb_length] at h1
       exact run_range_map _ _ _ _ _ _ _ Tryz.underlying62 h1
      have hst0 : RangeSt (wr.alloc (.mapIter (some w1.heap.size) m.length #[] m.length)) w1.heap.size wr.heap.size m #[] 0 :=
       ⟨HBK.out.map.alloc _, heap_alloc_new _ _, fun i p _ hc => by simp at hc, Nat.zero_le _⟩
      have HST0 := Aside0.mk hst0
      have HBK0' : Aside0 (BookAt (wr.alloc (.mapIter (some w1.heap.size) m.length #[] m.length)) (w1.heap.size + 1) w1.heap.size (.slice A l.length c) m 0) := ⟨HBK.out.below ((Below.refl _ _).alloc (Nat.le_refl _) _)⟩
      have HBW0' : Aside0 (Below w.heap.size w (wr.alloc (.mapIter (some w1.heap.size) m.length #[] m.length))) := ⟨below_alloc HBW.out _⟩
      have hwsz := HBW.out.size
      obtain ⟨it, hit⟩ : ∃ it, it = wr.heap.size := ⟨_, rfl⟩
      clear hst0
      go_wp2
      rw [← hit] at HST0 hlt0 hwsz
      rw [← hit]
      clear hit hrg q0 q1 q2 q3
      go_loopg [] (leftOf (ents H.encS (emb m)) #[]).size (fun kq w' => ∃ (seen : Array Nat) (top : Nat), Aside0 ((leftOf (ents H.encS (emb m)) seen).size = kq) ∧ Aside0 (RangeSt w' w1.heap.size it m seen top) ∧ Aside0 (BookAt w' (w1.heap.size + 1) w1.heap.size (.slice A l.length c) m (top : Nat)) ∧ Aside0 (Below w.heap.size w w'))
      case atStart => exact ⟨#[], 0, ⟨rfl⟩, HST0, HBK0', HBW0'⟩
      case round =>
       obtain ⟨seen, top, HSZ, HST, HBK2, HBW2⟩ := hrel
       have hlt2 := HBK2.out.lt
       rcases range_step (P := Tryz.prog) HST.out 0 with ⟨h0, htop, hnext⟩ | ⟨p, seen', W2, hW2, hnext, hent, hst2, hless⟩
       ·have HTOP := Aside0.mk htop
        clear htop h0
        go_wp2
        go_ret
        refine ⟨HBW2.out, ?_⟩
        rw [HB3.out, HLV.out]
        exact ⟨w1.heap.size + 1, w1.heap.size, rfl, by rw [← HTOP.out]; exact HBK2.out, by omega, by omega⟩
       ·have hheap : W2.heap = wr.heap := by rcases hW2 with rfl | rfl <;> rfl
        have hbw5 : Below w.heap.size w (setBlock W2 it (.mapIter (some w1.heap.size) m.length seen' m.length)) := by
         refine below_setBlock ?_ (by omega) _
         rcases hW2 with rfl | rfl
         ·exact HBW2.out
         ·exact HBW2.out.drew
        have hbk5 : BookAt (setBlock W2 it (.mapIter (some w1.heap.size) m.length seen' m.length)) (w1.heap.size + 1) w1.heap.size (.slice A l.length c) m (top : Nat) :=
         HBK2.out.of ((setBlock_other _ _ _ (by omega)).trans (by rw [hheap])) ((setBlock_other _ _ _ (by omega)).trans (by rw [hheap]))
        clear hheap hW2
        generalize hW5 : setBlock W2 it (.mapIter (some w1.heap.size) m.length seen' m.length) = W5 at hnext hent hst2 hbw5 hbk5
        clear hW5
        obtain ⟨q0, q1, q2, q3⟩ := hbk5.cell
        have HBW5 := Aside0.mk hbw5
        have HBK5 := Aside0.mk hbk5
        have HST5 := Aside0.mk hst2
        have HLESS := Aside0.mk hless
        clear hbw5 hbk5 hst2 hless
        have hst6 : ∀ v, RangeSt (W5.setCell ⟨w1.heap.size + 1, 2, none⟩ v) w1.heap.size it m seen' (max top p.2) := fun v =>
         ⟨HST5.out.map.of_heap (Below.heap_setCell _ _ _ _ (by show w1.heap.size ≠ w1.heap.size + 1; omega)), (Below.heap_setCell _ _ _ _ (by show it ≠ w1.heap.size + 1; omega)).trans HST5.out.iter, HST5.out.low, HST5.out.high⟩
        have HST6 := Aside0.mk hst6
        clear hst6
        have hsz := HSZ.out
        have HSZ2 : Aside0 ((leftOf (ents H.encS (emb m)) seen').size < gk) := ⟨by have := HLESS.out; omega⟩
        clear hsz HSZ HLESS
        rcases Nat.lt_or_ge top p.2 with hmx | hmx
        ·have hmx2 : max top p.2 = p.2 := by omega
         have HMX := Aside0.mk hmx2
         clear hmx2
         go_wp2
         go_roundg (leftOf (ents H.encS (emb m)) seen').size
         case rel => exact ⟨seen', p.2, ⟨rfl⟩, ⟨by have := HST6.out (.int .i64 (p.2 : Nat)); rwa [HMX.out] at this⟩, ⟨HBK5.out.setTop _⟩, ⟨HBW5.out.setCell (by show w.heap.size ≤ w1.heap.size + 1; omega) _⟩⟩
         case measure => exact HSZ2.out
        ·have hmx2 : max top p.2 = top := by omega
         have hmx3 : ¬ top < p.2 := by omega
         have HMX := Aside0.mk hmx2
         clear hmx2
         go_wp2
         go_roundg (leftOf (ents H.encS (emb m)) seen').size
         case rel => exact ⟨seen', top, ⟨rfl⟩, ⟨by have := HST6.out (.int .i64 (top : Nat)); rwa [HMX.out] at this⟩, ⟨HBK5.out.setTop _⟩, ⟨HBW5.out.setCell (by show w.heap.size ≤ w1.heap.size + 1; omega) _⟩⟩
         case measure => exact HSZ2.out
     | true =>
      have hlv : Prot.levelsF (l.map toC) gk m = some (Prot.levels (l.map toC)) := by have := HL.out; simpa using this
      cases gk with
      | zero => exact absurd hlv (by simp [Prot.levelsF])
      | succ k1 =>
       have HLV := Aside0.mk hlv
       clear hlv HL
       go_wp2
       obtain ⟨RES, hRES⟩ : ∃ RES, Prot.passL (l.map toC).length (l.map toC) m false = RES := ⟨_, rfl⟩
       have HRES := Aside0.mk hRES
       clear hRES
       go_loopw [6, 39] (fun v6 v39 w' => ∃ (more : Bool) (j : Nat) (m' : List (ByteArray × Nat)), v6 = .bool more ∧ v39 = .int .i64 j ∧ j ≤ l.length ∧ Aside0 (BookAt w' (w1.heap.size + 1) w1.heap.size (.slice A l.length c) m' 0) ∧ Aside0 (Below w.heap.size w w') ∧ Aside0 (∀ z, Prot.get m' z ≤ l.length) ∧
        Aside0 (Prot.passL (l.map toC).length ((l.map toC).drop j) m' more = RES)) (fun _ v39 _ => l.length - (intOf v39).toNat)
       case atStart => exact ⟨false, 0, m, rfl, rfl, Nat.zero_le _, HBK, HBW, HVB, HRES⟩
       case round =>
        obtain ⟨more, j, m', rfl, rfl, hj, HBK2, HBW2, HVB2, HP⟩ := hrel
        by_cases hlt : j < l.length
        ·have HRr := Kd.C_below HR.out HBW2.out
         obtain ⟨ad, A3, c3, A4, c4, rfl, x0, x1, x2, x3, x4, x5, l3, g3, l4, g4⟩ := at_T25 HRr (j : Int) (by omega) (by omega)
         have HL3 := Aside0.mk l3
         have HL4 := Aside0.mk l4
         have HG3 := Aside0.mk g3
         have HG4 := Aside0.mk g4
         clear l3 l4 g3 g4 HRr
         simp only [Int.toNat_natCast] at x0 x1 x2 x3 x4 x5
         obtain ⟨x, hx⟩ : ∃ x, x = rd_T25 l (j : Int) := ⟨_, rfl⟩
         rw [← hx] at x0 x1 x2 x3 x4 x5 HL3 HL4 HG3 HG4
         have HX := Aside0.mk hx
         clear hx
         have hw2 := HBW2.out.size
         obtain ⟨q0, q1, q2, q3⟩ := HBK2.out.cell
         have hlt2 := HBK2.out.lt
         have hlk : ∀ n, (Instr.lookup 62 (.map (some w1.heap.size)) (.string x.f5) false).run Tryz.prog ((wr.alloc (.cells #[.string x.f0, .int .i64 x.f1, .int .i64 x.f2, .slice A3 x.f3.length c3, .slice A4 x.f4.length c4, .string x.f5] 25)).drewN n) = .ok (.int .i64 (Prot.get m' x.f5 : Nat)) ((wr.alloc (.cells #[.string x.f0, .int .i64 x.f1, .int .i64 x.f2, .slice A3 x.f3.length c3, .slice A4 x.f4.length c4, .string x.f5] 25)).drewN n) := fun n => by
          rw [← emb_get]
          exact run_lookup_at keyS Tryz.underlying62 Tryz.underlying9 ((HBK2.out.map.alloc _).drewN n) zero3 _
         go_wp2
         go_quiet (fail)
         clear hlk
         generalize hW3 : World.drewN _ _ = W3
         have HK3 : Aside0 (Kept25 wr #[.string x.f0, .int .i64 x.f1, .int .i64 x.f2, .slice A3 x.f3.length c3, .slice A4 x.f4.length c4, .string x.f5] W3) := ⟨by rw [← hW3]; exact (Kept25.mk' _ _).drewN _⟩
         have HBK3 : Aside0 (BookAt W3 (w1.heap.size + 1) w1.heap.size (.slice (some ad) l.length c) m' 0) := ⟨HBK2.out.below HK3.out.2⟩
         have HBW3 : Aside0 (Below w.heap.size w W3) := ⟨below_then HBW2.out HBW2.out.size HK3.out.2⟩
         clear hW3 q0 q1 q2 q3
         obtain ⟨q0, q1, q2, q3⟩ := HBK3.out.cell
         have y3 := HK3.out.cell 3
         have y4 := HK3.out.cell 4
         have y5 := HK3.out.cell 5
         simp only [List.getElem?_toArray, List.getElem?_cons_zero, List.getElem?_cons_succ] at y3 y4 y5
         clear x0 x1 x2 x3 x4 x5
         obtain ⟨T1, hT1⟩ : ∃ T1, Prot.foldIf m' x.f3 (Prot.get m' x.f5) = T1 := ⟨_, rfl⟩
         have HT1 := Aside0.mk hT1
         clear hT1
         have hl3 := HG3.out.2.1
         have hl4 := HG4.out.2.1
         go_wp2
         go_loop [9, 53] (fun v9 v53 => ∃ (n i : Nat), v9 = .int .i64 n ∧ v53 = .int .i64 i ∧ i ≤ x.f3.length ∧ Aside0 (Prot.foldIf m' (x.f3.drop i) n = T1)) (fun _ v53 => x.f3.length - (intOf v53).toNat)
         case atStart => exact ⟨_, 0, rfl, rfl, Nat.zero_le _, HT1⟩
         case round =>
          obtain ⟨n, i, rfl, rfl, hi, HN⟩ := hrel
          by_cases hlt3 : i < x.f3.length
          ·have HG3' := Kd.C_below HG3.out HK3.out.2
           obtain ⟨ad3, rfl, hcell⟩ := Kd.at_string HG3' (i : Int) (by omega) (by omega)
           simp only [Int.toNat_natCast] at hcell
           clear HG3'
           have hlk : (Instr.lookup 62 (.map (some w1.heap.size)) (.string (rdOf ByteArray.empty x.f3 (i : Int))) false).run Tryz.prog W3 = .ok (.int .i64 (Prot.get m' (rdOf ByteArray.empty x.f3 (i : Int)) : Nat)) W3 := by
            rw [← emb_get]
            exact run_lookup_at keyS Tryz.underlying62 Tryz.underlying9 HBK3.out.map zero3 _
           have hst : Prot.foldIf m' (x.f3.drop i) n = Prot.foldIf m' (x.f3.drop (i + 1)) (max n (Prot.get m' (rdOf ByteArray.empty x.f3 (i : Int)))) := by
            rw [List.drop_eq_getElem_cons hlt3, rdOf_nat, List.getD_eq_getElem?_getD, List.getElem?_eq_getElem hlt3]
            rfl
           have HST := Aside0.mk (hst.symm.trans HN.out)
           clear hst
           go_wp2
           go_round
           case rel => exact ⟨max n (Prot.get m' (rdOf ByteArray.empty x.f3 (i : Int))), i + 1, if_max _ _, by go_num, by omega, HST⟩
           case measure => simp [intOf]; omega
          ·obtain rfl : i = x.f3.length := by omega
           have hn : n = T1 := by have := HN.out; rwa [List.drop_length] at this
           subst hn
           clear HN
           obtain ⟨T2, hT2⟩ : ∃ T2, Prot.foldUn m' x.f4 n = T2 := ⟨_, rfl⟩
           have HT2 := Aside0.mk hT2
           clear hT2
           go_wp2
           go_loop [9, 69] (fun v9 v69 => ∃ (n i : Nat), v9 = .int .i64 n ∧ v69 = .int .i64 i ∧ i ≤ x.f4.length ∧ Aside0 (Prot.foldUn m' (x.f4.drop i) n = T2)) (fun _ v69 => x.f4.length - (intOf v69).toNat)
           case atStart => exact ⟨_, 0, rfl, rfl, Nat.zero_le _, HT2⟩
           case round =>
            obtain ⟨n5, i, rfl, rfl, hi5, HN⟩ := hrel
            by_cases hlt5 : i < x.f4.length
            ·have HG4' := Kd.C_below HG4.out HK3.out.2
             obtain ⟨ad4, rfl, hcell⟩ := Kd.at_string HG4' (i : Int) (by omega) (by omega)
             simp only [Int.toNat_natCast] at hcell
             clear HG4'
             have hgb := HVB2.out (rdOf ByteArray.empty x.f4 (i : Int))
             have hlk : (Instr.lookup 62 (.map (some w1.heap.size)) (.string (rdOf ByteArray.empty x.f4 (i : Int))) false).run Tryz.prog W3 = .ok (.int .i64 (Prot.get m' (rdOf ByteArray.empty x.f4 (i : Int)) : Nat)) W3 := by
              rw [← emb_get]
              exact run_lookup_at keyS Tryz.underlying62 Tryz.underlying9 HBK3.out.map zero3 _
             have hst : Prot.foldUn m' (x.f4.drop i) n5 = Prot.foldUn m' (x.f4.drop (i + 1)) (max n5 (Prot.get m' (rdOf ByteArray.empty x.f4 (i : Int)) + 1)) := by
              rw [List.drop_eq_getElem_cons hlt5, rdOf_nat, List.getD_eq_getElem?_getD, List.getElem?_eq_getElem hlt5]
              rfl
             have HST := Aside0.mk (hst.symm.trans HN.out)
             clear hst
             go_wp2
             go_round
             case rel => exact ⟨max n5 (Prot.get m' (rdOf ByteArray.empty x.f4 (i : Int)) + 1), i + 1, if_max1 _ _, by go_num, by omega, HST⟩
             case measure => simp [intOf]; omega
            ·obtain rfl : i = x.f4.length := by omega
             have hn : n5 = T2 := by have := HN.out; rwa [List.drop_length] at this
             subst hn
             clear HN
             have hwants : Prot.wants m' (toC x) = n5 := by
              show Prot.foldUn m' x.f4 (Prot.foldIf m' x.f3 (Prot.get m' x.f5)) = n5
              rw [HT1.out, HT2.out]
             have hpc := pass_cons (l.map toC).length l j hlt m' more
             rw [HP.out, ← HX.out, hwants] at hpc
             have HPC := Aside0.mk hpc
             clear hpc hwants HP HT1 HT2
             go_wp2_with fail
             by_cases hle : n5 ≤ l.length
             ·have hd1 : decide (n5 ≤ l.length) = true := decide_eq_true hle
              rw [hd1]
              have hpc := HPC.out
              rw [if_neg (by simp; omega)] at hpc
              clear HPC hd1
              refine (need_true _ _ _).mono ?_
              rintro e w4 ⟨rfl, rfl⟩
              have hlk : ∀ n, (Instr.lookup 62 (.map (some w1.heap.size)) (.string x.f5) false).run Tryz.prog (W3.drewN n) = .ok (.int .i64 (Prot.get m' x.f5 : Nat)) (W3.drewN n) := fun n => by
               rw [← emb_get]
               exact run_lookup_at keyS Tryz.underlying62 Tryz.underlying9 (HBK3.out.map.drewN n) zero3 _
              by_cases hgt : Prot.get m' x.f5 < n5
              ·rw [if_pos hgt] at hpc
               have HPC := Aside0.mk hpc
               clear hpc
               go_wp2
               go_quiet (fail)
               clear hlk q0 q1 q2 q3 y3 y4 y5
               generalize hW4 : World.drewN _ _ = W4
               have HK4 : Aside0 (Kept25 wr #[.string x.f0, .int .i64 x.f1, .int .i64 x.f2, .slice A3 x.f3.length c3, .slice A4 x.f4.length c4, .string x.f5] W4) := ⟨by rw [← hW4]; exact HK3.out.drewN _⟩
               have HBK4 : Aside0 (BookAt W4 (w1.heap.size + 1) w1.heap.size (.slice (some ad) l.length c) m' 0) := ⟨by rw [← hW4]; exact HBK3.out.below (pw_below_drewN (Below.refl _ _) _)⟩
               have HBW4 : Aside0 (Below w.heap.size w W4) := ⟨by rw [← hW4]; exact pw_below_drewN HBW3.out _⟩
               clear hW4
               obtain ⟨q0, q1, q2, q3⟩ := HBK4.out.cell
               have y5 := HK4.out.cell 5
               simp only [List.getElem?_toArray, List.getElem?_cons_zero, List.getElem?_cons_succ] at y5
               have hme : (Instr.mapEntry 62 (.map (some w1.heap.size)) (.string x.f5)).run Tryz.prog W4.drew = .ok (.tuple #[(mget (emb m') x.f5).getD (.int .i64 0), .int .i64 (place (emb m') x.f5 : Nat)]) (H.putMap H.encS W4.drew w1.heap.size (entered (emb m') x.f5 (.int .i64 0))) :=
                run_mapEntry_at keyS Tryz.underlying62 Tryz.underlying9 HBK4.out.map.drew zero3 _
               have hes : (Instr.entryStore 62 (.map (some w1.heap.size)) (.int .i64 (place (emb m') x.f5 : Nat)) (.int .i64 (n5 : Nat))).run Tryz.prog (H.putMap H.encS W4.drew w1.heap.size (entered (emb m') x.f5 (.int .i64 0))) = .ok () (H.putMap H.encS (H.putMap H.encS W4.drew w1.heap.size (entered (emb m') x.f5 (.int .i64 0))) w1.heap.size (mput (emb m') x.f5 (.int .i64 (n5 : Nat)))) :=
                run_entryStore_entered (HBK4.out.map.drew.put _) _
               go_wp2
               go_region
               have hbk5 : BookAt (H.putMap H.encS (H.putMap H.encS W4.drew w1.heap.size (entered (emb m') x.f5 (.int .i64 0))) w1.heap.size (mput (emb m') x.f5 (.int .i64 (n5 : Nat)))) (w1.heap.size + 1) w1.heap.size (.slice (some ad) l.length c) (Prot.put m' x.f5 n5) 0 := by
                rw [← emb_put]; exact HBK4.out.drew.put2 _ _
               have hbw5 : Below w.heap.size w (H.putMap H.encS (H.putMap H.encS W4.drew w1.heap.size (entered (emb m') x.f5 (.int .i64 0))) w1.heap.size (mput (emb m') x.f5 (.int .i64 (n5 : Nat)))) :=
                below_putMap (below_putMap HBW4.out.drew hwr _) hwr _
               have hvb5 : ∀ z, Prot.get (Prot.put m' x.f5 n5) z ≤ l.length := by
                intro z
                by_cases e : x.f5 = z
                ·subst e; rw [Prot.get_put_same]; exact hle
                ·rw [Prot.get_put_other _ _ e]; exact HVB2.out z
               have HBK5 := Aside0.mk hbk5
               have HBW5 := Aside0.mk hbw5
               have HVB5 := Aside0.mk hvb5
               clear hbk5 hbw5 hvb5 hme hes
               go_wp2
               go_roundw
               case rel => exact ⟨true, j + 1, Prot.put m' x.f5 n5, rfl, by go_num, by omega, HBK5, HBW5, HVB5, ⟨HPC.out.symm⟩⟩
               case measure => simp [intOf]; omega
              ·rw [if_neg hgt] at hpc
               have HPC := Aside0.mk hpc
               clear hpc
               go_wp2
               go_quiet (fail)
               clear hlk
               go_wp2
               go_roundw
               case rel => exact ⟨more, j + 1, m', rfl, by go_num, by omega, ⟨HBK3.out.below (pw_below_drewN (Below.refl _ _) _)⟩, ⟨pw_below_drewN HBW3.out _⟩, HVB2, ⟨HPC.out.symm⟩⟩
               case measure => simp [intOf]; omega
             ·have hd1 : decide (n5 ≤ l.length) = false := decide_eq_false hle
              rw [hd1]
              have hpc := HPC.out
              rw [if_pos (by simp; omega)] at hpc
              have hlv := HLV.out
              unfold Prot.levelsF at hlv
              rw [HRES.out, hpc] at hlv
              have hnone : Prot.levels (l.map toC) = none := by simpa using hlv.symm
              have HNN := Aside0.mk hnone
              clear hpc hlv hnone hd1 HPC
              refine (need_false _ _ _).mono ?_
              rintro e w4 ⟨rfl, rfl⟩
              go_wp2
              exact ⟨rfl, HBW3.out, by rw [HB3.out, HNN.out]; rfl⟩
        ·obtain rfl : j = l.length := by omega
         have hres : RES = some (m', more) := by
          have h := HP.out
          rw [List.drop_of_length_le (by simp)] at h
          exact h.symm
         have hlv := HLV.out
         unfold Prot.levelsF at hlv
         rw [HRES.out, hres] at hlv
         have hnext : if more = true then Prot.levelsF (l.map toC) k1 m' = some (Prot.levels (l.map toC)) else Prot.levels (l.map toC) = some m' := by
          cases more with
          | true => simpa using hlv
          | false => simpa using hlv.symm
         have HNX := Aside0.mk hnext
         clear hlv hnext hres HP HLV HRES
         go_wp2
         go_roundg k1
         case rel => exact ⟨more, m', rfl, HBK2, HBW2, HVB2, HNX⟩
         case measure => omega
end
end Go.Proofs.YtlhkeohcickiaaaGreatDoor.E
namespace Go.Proofs.YtlhkeohcickiaaaGreatDoor.E
open Go.RowKit Go.Proofs.YtlhkeohcickiaaaGreatDoor.H Go.Proofs.YtlhkeohcickiaaaGreatDoorW.PrintWords Go.Proofs.YtlhkeohcickiaaaGreatDoorW.PrintLast Go.Proofs.YtlhkeohcickiaaaGreatDoorW.PrintMore
section
def firesW (hs : List (ByteArray × Value)) (ed : Int) (lo hi : Int) (ifs unl : List ByteArray) (thn : ByteArray) : Bool :=
 (decide (lo ≤ ed) && decide (ed ≤ hi)) && (!has hs thn && (ifs.all (has hs) && !(unl.any (has hs))))
theorem bool_of_true {hs : List (ByteArray × Value)} (hb : ∀ p ∈ hs, p.2 = .bool true) (s : ByteArray) : (mget hs s).getD (.bool false) = .bool (has hs s) := by
 unfold has
 cases h : mget hs s with
 | none => rfl
 | some v =>
  obtain ⟨_, h2, _⟩ := mget_some h
  have := hb _ (List.mem_of_getElem? h2)
  simp only at this
  rw [this]; rfl
theorem stands_any (a0 : ByteArray) (a1 a2 : Int) (A3 : Option Addr) (c3 : Nat) (l3 : List ByteArray) (A4 : Option Addr) (c4 : Nat) (l4 : List ByteArray) (a5 : ByteArray) (ed : Int) (w : World)
  (hr3 : Kd.C Kd.string w A3 l3.length l3) (hc3 : l3.length ≤ c3) (hr4 : Kd.C Kd.string w A4 l4.length l4) (hc4 : l4.length ≤ c4) :
  Calls Tryz.prog 83 #[.agg #[.string a0, .int .i64 a1, .int .i64 a2, .slice A3 l3.length c3, .slice A4 l4.length c4, .string a5], .int .i64 ed] w fun e w' => e = .returned (.bool (decide (a1 ≤ ed) && decide (ed ≤ a2))) ∧ Below w.heap.size w w' :=
 protest_stands.calls a0 a1 a2 A3 c3 l3 A4 c4 l4 a5 ed _ w hr3 hc3 hr4 hc4 (by unfold protest_stands.f protest_within.f; by_cases h : a1 ≤ ed <;> simp [h])
attribute [local go_sem] SteadyRes_value SteadyRes_skip SteadyRes_enter
set_option maxRecDepth 100000 in
set_option maxHeartbeats 1000000 in
theorem fires_calls (wb h : Nat) (bv gv rv ov : Value) (ed : Int) (hs : List (ByteArray × Value)) (hb : ∀ p ∈ hs, p.2 = .bool true)
  (a0 : ByteArray) (a1 a2 : Int) (A3 : Option Addr) (c3 : Nat) (l3 : List ByteArray) (A4 : Option Addr) (c4 : Nat) (l4 : List ByteArray) (a5 : ByteArray) (w : World)
  (hw : w.heap[wb]? = some (.cells #[bv, .int .i64 ed, .map (some h), gv, rv, ov] 83 (0, 0))) (hm : H.MapAt H.encS w h hs)
  (hr3 : Kd.C Kd.string w A3 l3.length l3) (hc3 : l3.length ≤ c3) (hr4 : Kd.C Kd.string w A4 l4.length l4) (hc4 : l4.length ≤ c4) :
  Calls Tryz.prog 95 #[.pointer (some ⟨wb, 0, none⟩), .agg #[.string a0, .int .i64 a1, .int .i64 a2, .slice A3 l3.length c3, .slice A4 l4.length c4, .string a5]] w fun e w' => e = .returned (.bool (firesW hs ed a1 a2 l3 l4 a5)) ∧ Below w.heap.size w w' := by
 have hlt : wb < w.heap.size := (Array.getElem?_eq_some_iff.1 hw).1
 have hlm := hm.lt
 have hf : ∀ W, Kept25 w (#[.string a0, .int .i64 a1, .int .i64 a2, .slice A3 l3.length c3, .slice A4 l4.length c4, .string a5] : Array Value) W → W.cell? ⟨wb, 1, none⟩ = some (.int .i64 ed) ∧ W.cell? ⟨wb, 2, none⟩ = some (.map (some h)) ∧
   W.cell? ⟨w.heap.size, 3, none⟩ = some (.slice A3 l3.length c3) ∧ W.cell? ⟨w.heap.size, 4, none⟩ = some (.slice A4 l4.length c4) ∧ W.cell? ⟨w.heap.size, 5, none⟩ = some (.string a5) ∧
   (W.cell? ⟨w.heap.size, 0, none⟩ = some (.string a0) ∧ W.cell? ⟨w.heap.size, 1, none⟩ = some (.int .i64 a1) ∧ W.cell? ⟨w.heap.size, 2, none⟩ = some (.int .i64 a2)) ∧
   (Instr.lookup 71 (.map (some h)) (.string a5) false).run Tryz.prog W = .ok (.bool (has hs a5)) W := by
  intro W hW
  have e : W.heap[wb]? = _ := (hW.2.block wb hlt).trans hw
  refine ⟨by unfold World.cell?; rw [e]; rfl, by unfold World.cell?; rw [e]; rfl, hW.cell 3, hW.cell 4, hW.cell 5, ?_, ?_⟩
  ·exact ⟨hW.cell 0, hW.cell 1, hW.cell 2⟩
  ·rw [← bool_of_true hb]
   exact run_lookup_at keyS Tryz.underlying71 Tryz.underlying9 (hm.below hW.2 hlm) zero4 _
 have hk83 : ∀ W, Kept25 w (#[.string a0, .int .i64 a1, .int .i64 a2, .slice A3 l3.length c3, .slice A4 l4.length c4, .string a5] : Array Value) W → Calls Tryz.prog 83 #[.agg #[.string a0, .int .i64 a1, .int .i64 a2, .slice A3 l3.length c3, .slice A4 l4.length c4, .string a5], .int .i64 ed] W fun e W' => e = .returned (.bool (decide (a1 ≤ ed) && decide (ed ≤ a2))) ∧ Below W.heap.size W W' := fun W hW => stands_any _ _ _ _ _ _ _ _ _ _ _ _ (Kd.C_below hr3 hW.2) hc3 (Kd.C_below hr4 hW.2) hc4
 have hk106 : ∀ W, Kept25 w (#[.string a0, .int .i64 a1, .int .i64 a2, .slice A3 l3.length c3, .slice A4 l4.length c4, .string a5] : Array Value) W → Calls Tryz.prog 106 #[.map (some h), .slice A3 l3.length c3] W fun e W' => e = .returned (.bool (l3.all (has hs))) ∧ Below W.heap.size W W' := fun W hW => all_calls hs hb h _ _ _ _ (hm.below hW.2 hlm) (Kd.C_below hr3 hW.2)
 have hk47 : ∀ W, Kept25 w (#[.string a0, .int .i64 a1, .int .i64 a2, .slice A3 l3.length c3, .slice A4 l4.length c4, .string a5] : Array Value) W → Calls Tryz.prog 47 #[.map (some h), .slice A4 l4.length c4] W fun e W' => e = .returned (.bool (l4.any (has hs))) ∧ Below W.heap.size W W' := fun W hW => any_calls hs hb h _ _ _ _ (hm.below hW.2 hlm) (Kd.C_below hr4 hW.2)
 have HK0 := Aside0.mk (Kept25.mk' w (#[.string a0, .int .i64 a1, .int .i64 a2, .slice A3 l3.length c3, .slice A4 l4.length c4, .string a5] : Array Value))
 clear hr3 hr4 hm hw hlm hlt hb
 cases h1 : (decide (a1 ≤ ed) && decide (ed ≤ a2)) with
 | false =>
  rw [h1] at hk83
  have HF := Aside0.mk hf
  have H83 := Aside0.mk hk83
  have H1 := Aside0.mk h1
  clear hf hk83 hk106 hk47 h1
  have hu25 := Tryz.underlying25
  go_enter Tryz.func95, Tryz.ntmps95
  go_wp2
  refine wp_region_steady (by kernel_rfl) (Kept25 w (#[.string a0, .int .i64 a1, .int .i64 a2, .slice A3 l3.length c3, .slice A4 l4.length c4, .string a5] : Array Value)) HK0.out.drew (by decide +kernel) ?_
  apply Chain.val
  ·rfl
  ·intro W hW
   obtain ⟨y0, y1, y2, y3, y4, ⟨y5, y7, y8⟩, y6⟩ := HF.out W hW
   go_simp
   first | exact rfl | exact ⟨rfl, hW⟩
  simp only [Act.put, List.setIfInBounds_toArray, List.set_cons_succ, List.set_cons_zero]
  apply Chain.val
  ·rfl
  ·intro W hW
   obtain ⟨y0, y1, y2, y3, y4, ⟨y5, y7, y8⟩, y6⟩ := HF.out W hW
   go_simp
   first | exact rfl | exact ⟨rfl, hW⟩
  simp only [Act.put, List.setIfInBounds_toArray, List.set_cons_succ, List.set_cons_zero]
  apply Chain.val
  ·rfl
  ·intro W hW
   obtain ⟨y0, y1, y2, y3, y4, ⟨y5, y7, y8⟩, y6⟩ := HF.out W hW
   go_simp
   first | exact rfl | exact ⟨rfl, hW⟩
  simp only [Act.put, List.setIfInBounds_toArray, List.set_cons_succ, List.set_cons_zero]
  apply Chain.val
  ·rfl
  ·intro W hW
   obtain ⟨y0, y1, y2, y3, y4, ⟨y5, y7, y8⟩, y6⟩ := HF.out W hW
   go_simp
   first | exact rfl | exact ⟨rfl, hW⟩
  simp only [Act.put, List.setIfInBounds_toArray, List.set_cons_succ, List.set_cons_zero]
  apply Chain.val
  ·rfl
  ·intro W hW
   obtain ⟨y0, y1, y2, y3, y4, ⟨y5, y7, y8⟩, y6⟩ := HF.out W hW
   go_simp
   first | exact rfl | exact ⟨rfl, hW⟩
  simp only [Act.put, List.setIfInBounds_toArray, List.set_cons_succ, List.set_cons_zero]
  apply Chain.val
  ·rfl
  ·intro W hW
   obtain ⟨y0, y1, y2, y3, y4, ⟨y5, y7, y8⟩, y6⟩ := HF.out W hW
   go_simp
   exact (H83.out W hW).mono fun e w' ⟨he, hb⟩ => ⟨he, hW.below hb⟩
  simp only [Act.put, List.setIfInBounds_toArray, List.set_cons_succ, List.set_cons_zero]
  apply Chain.val
  ·rfl
  ·intro W hW
   obtain ⟨y0, y1, y2, y3, y4, ⟨y5, y7, y8⟩, y6⟩ := HF.out W hW
   go_simp
   first | exact rfl | exact ⟨rfl, hW⟩
  simp only [Act.put, List.setIfInBounds_toArray, List.set_cons_succ, List.set_cons_zero]
  refine Chain.skip (by rfl) ?_
  simp only [Act.put, List.setIfInBounds_toArray, List.set_cons_succ, List.set_cons_zero]
  refine Chain.skip (by rfl) ?_
  simp only [Act.put, List.setIfInBounds_toArray, List.set_cons_succ, List.set_cons_zero]
  refine Chain.skip (by rfl) ?_
  simp only [Act.put, List.setIfInBounds_toArray, List.set_cons_succ, List.set_cons_zero]
  refine Chain.skip (by rfl) ?_
  simp only [Act.put, List.setIfInBounds_toArray, List.set_cons_succ, List.set_cons_zero]
  refine Chain.skip (by rfl) ?_
  simp only [Act.put, List.setIfInBounds_toArray, List.set_cons_succ, List.set_cons_zero]
  refine Chain.skip (by rfl) ?_
  simp only [Act.put, List.setIfInBounds_toArray, List.set_cons_succ, List.set_cons_zero]
  refine Chain.skip (by rfl) ?_
  simp only [Act.put, List.setIfInBounds_toArray, List.set_cons_succ, List.set_cons_zero]
  refine Chain.skip (by rfl) ?_
  simp only [Act.put, List.setIfInBounds_toArray, List.set_cons_succ, List.set_cons_zero]
  apply Chain.val
  ·rfl
  ·intro W hW
   obtain ⟨y0, y1, y2, y3, y4, ⟨y5, y7, y8⟩, y6⟩ := HF.out W hW
   go_simp
   first | exact rfl | exact ⟨rfl, hW⟩
  simp only [Act.put, List.setIfInBounds_toArray, List.set_cons_succ, List.set_cons_zero]
  apply Chain.val
  ·rfl
  ·intro W hW
   obtain ⟨y0, y1, y2, y3, y4, ⟨y5, y7, y8⟩, y6⟩ := HF.out W hW
   go_simp
   first | exact rfl | exact ⟨rfl, hW⟩
  simp only [Act.put, List.setIfInBounds_toArray, List.set_cons_succ, List.set_cons_zero]
  refine Chain.skip (by rfl) ?_
  simp only [Act.put, List.setIfInBounds_toArray, List.set_cons_succ, List.set_cons_zero]
  refine Chain.skip (by rfl) ?_
  simp only [Act.put, List.setIfInBounds_toArray, List.set_cons_succ, List.set_cons_zero]
  refine Chain.skip (by rfl) ?_
  simp only [Act.put, List.setIfInBounds_toArray, List.set_cons_succ, List.set_cons_zero]
  refine Chain.skip (by rfl) ?_
  simp only [Act.put, List.setIfInBounds_toArray, List.set_cons_succ, List.set_cons_zero]
  refine Chain.skip (by rfl) ?_
  simp only [Act.put, List.setIfInBounds_toArray, List.set_cons_succ, List.set_cons_zero]
  refine Chain.skip (by rfl) ?_
  simp only [Act.put, List.setIfInBounds_toArray, List.set_cons_succ, List.set_cons_zero]
  refine Chain.skip (by rfl) ?_
  simp only [Act.put, List.setIfInBounds_toArray, List.set_cons_succ, List.set_cons_zero]
  apply Chain.val
  ·rfl
  ·intro W hW
   obtain ⟨y0, y1, y2, y3, y4, ⟨y5, y7, y8⟩, y6⟩ := HF.out W hW
   go_simp
   first | exact rfl | exact ⟨rfl, hW⟩
  simp only [Act.put, List.setIfInBounds_toArray, List.set_cons_succ, List.set_cons_zero]
  apply Chain.val
  ·rfl
  ·intro W hW
   obtain ⟨y0, y1, y2, y3, y4, ⟨y5, y7, y8⟩, y6⟩ := HF.out W hW
   go_simp
   first | exact rfl | exact ⟨rfl, hW⟩
  simp only [Act.put, List.setIfInBounds_toArray, List.set_cons_succ, List.set_cons_zero]
  refine Chain.skip (by rfl) ?_
  simp only [Act.put, List.setIfInBounds_toArray, List.set_cons_succ, List.set_cons_zero]
  refine Chain.skip (by rfl) ?_
  simp only [Act.put, List.setIfInBounds_toArray, List.set_cons_succ, List.set_cons_zero]
  refine Chain.skip (by rfl) ?_
  simp only [Act.put, List.setIfInBounds_toArray, List.set_cons_succ, List.set_cons_zero]
  refine Chain.skip (by rfl) ?_
  simp only [Act.put, List.setIfInBounds_toArray, List.set_cons_succ, List.set_cons_zero]
  refine Chain.skip (by rfl) ?_
  simp only [Act.put, List.setIfInBounds_toArray, List.set_cons_succ, List.set_cons_zero]
  refine Chain.skip (by rfl) ?_
  simp only [Act.put, List.setIfInBounds_toArray, List.set_cons_succ, List.set_cons_zero]
  refine Chain.skip (by rfl) ?_
  simp only [Act.put, List.setIfInBounds_toArray, List.set_cons_succ, List.set_cons_zero]
  refine Chain.skip (by rfl) ?_
  simp only [Act.put, List.setIfInBounds_toArray, List.set_cons_succ, List.set_cons_zero]
  apply Chain.val
  ·rfl
  ·intro W hW
   obtain ⟨y0, y1, y2, y3, y4, ⟨y5, y7, y8⟩, y6⟩ := HF.out W hW
   go_simp
   first | exact rfl | exact ⟨rfl, hW⟩
  simp only [Act.put, List.setIfInBounds_toArray, List.set_cons_succ, List.set_cons_zero]
  apply Chain.val
  ·rfl
  ·intro W hW
   obtain ⟨y0, y1, y2, y3, y4, ⟨y5, y7, y8⟩, y6⟩ := HF.out W hW
   go_simp
   first | exact rfl | exact ⟨rfl, hW⟩
  simp only [Act.put, List.setIfInBounds_toArray, List.set_cons_succ, List.set_cons_zero]
  refine Chain.nil ?_
  intro W hW
  have HW := Aside0.mk hW
  clear hW
  go_wp2
  go_ret
  exact ⟨by unfold firesW; rw [H1.out]; rfl, HW.out.2⟩
 | true =>
  rw [h1] at hk83
  cases h2 : has hs a5 with
  | true =>
   rw [h2] at hf
   have HF := Aside0.mk hf
   have H83 := Aside0.mk hk83
   have H1 := Aside0.mk h1
   have H2 := Aside0.mk h2
   clear hf hk83 hk106 hk47 h1 h2
   have hu25 := Tryz.underlying25
   go_enter Tryz.func95, Tryz.ntmps95
   go_wp2
   refine wp_region_steady (by kernel_rfl) (Kept25 w (#[.string a0, .int .i64 a1, .int .i64 a2, .slice A3 l3.length c3, .slice A4 l4.length c4, .string a5] : Array Value)) HK0.out.drew (by decide +kernel) ?_
   apply Chain.val
   ·rfl
   ·intro W hW
    obtain ⟨y0, y1, y2, y3, y4, ⟨y5, y7, y8⟩, y6⟩ := HF.out W hW
    go_simp
    first | exact rfl | exact ⟨rfl, hW⟩
   simp only [Act.put, List.setIfInBounds_toArray, List.set_cons_succ, List.set_cons_zero]
   apply Chain.val
   ·rfl
   ·intro W hW
    obtain ⟨y0, y1, y2, y3, y4, ⟨y5, y7, y8⟩, y6⟩ := HF.out W hW
    go_simp
    first | exact rfl | exact ⟨rfl, hW⟩
   simp only [Act.put, List.setIfInBounds_toArray, List.set_cons_succ, List.set_cons_zero]
   apply Chain.val
   ·rfl
   ·intro W hW
    obtain ⟨y0, y1, y2, y3, y4, ⟨y5, y7, y8⟩, y6⟩ := HF.out W hW
    go_simp
    first | exact rfl | exact ⟨rfl, hW⟩
   simp only [Act.put, List.setIfInBounds_toArray, List.set_cons_succ, List.set_cons_zero]
   apply Chain.val
   ·rfl
   ·intro W hW
    obtain ⟨y0, y1, y2, y3, y4, ⟨y5, y7, y8⟩, y6⟩ := HF.out W hW
    go_simp
    first | exact rfl | exact ⟨rfl, hW⟩
   simp only [Act.put, List.setIfInBounds_toArray, List.set_cons_succ, List.set_cons_zero]
   apply Chain.val
   ·rfl
   ·intro W hW
    obtain ⟨y0, y1, y2, y3, y4, ⟨y5, y7, y8⟩, y6⟩ := HF.out W hW
    go_simp
    first | exact rfl | exact ⟨rfl, hW⟩
   simp only [Act.put, List.setIfInBounds_toArray, List.set_cons_succ, List.set_cons_zero]
   apply Chain.val
   ·rfl
   ·intro W hW
    obtain ⟨y0, y1, y2, y3, y4, ⟨y5, y7, y8⟩, y6⟩ := HF.out W hW
    go_simp
    exact (H83.out W hW).mono fun e w' ⟨he, hb⟩ => ⟨he, hW.below hb⟩
   simp only [Act.put, List.setIfInBounds_toArray, List.set_cons_succ, List.set_cons_zero]
   apply Chain.val
   ·rfl
   ·intro W hW
    obtain ⟨y0, y1, y2, y3, y4, ⟨y5, y7, y8⟩, y6⟩ := HF.out W hW
    go_simp
    first | exact rfl | exact ⟨rfl, hW⟩
   simp only [Act.put, List.setIfInBounds_toArray, List.set_cons_succ, List.set_cons_zero]
   apply Chain.val
   ·rfl
   ·intro W hW
    obtain ⟨y0, y1, y2, y3, y4, ⟨y5, y7, y8⟩, y6⟩ := HF.out W hW
    go_simp
    first | exact rfl | exact ⟨rfl, hW⟩
   simp only [Act.put, List.setIfInBounds_toArray, List.set_cons_succ, List.set_cons_zero]
   apply Chain.val
   ·rfl
   ·intro W hW
    obtain ⟨y0, y1, y2, y3, y4, ⟨y5, y7, y8⟩, y6⟩ := HF.out W hW
    go_simp
    first | exact rfl | exact ⟨rfl, hW⟩
   simp only [Act.put, List.setIfInBounds_toArray, List.set_cons_succ, List.set_cons_zero]
   apply Chain.val
   ·rfl
   ·intro W hW
    obtain ⟨y0, y1, y2, y3, y4, ⟨y5, y7, y8⟩, y6⟩ := HF.out W hW
    go_simp
    first | exact rfl | exact ⟨rfl, hW⟩
   simp only [Act.put, List.setIfInBounds_toArray, List.set_cons_succ, List.set_cons_zero]
   apply Chain.val
   ·rfl
   ·intro W hW
    obtain ⟨y0, y1, y2, y3, y4, ⟨y5, y7, y8⟩, y6⟩ := HF.out W hW
    go_simp
    first | exact rfl | exact ⟨rfl, hW⟩
   simp only [Act.put, List.setIfInBounds_toArray, List.set_cons_succ, List.set_cons_zero]
   apply Chain.val
   ·rfl
   ·intro W hW
    obtain ⟨y0, y1, y2, y3, y4, ⟨y5, y7, y8⟩, y6⟩ := HF.out W hW
    go_simp
    first | exact rfl | exact ⟨rfl, hW⟩
   simp only [Act.put, List.setIfInBounds_toArray, List.set_cons_succ, List.set_cons_zero]
   apply Chain.val
   ·rfl
   ·intro W hW
    obtain ⟨y0, y1, y2, y3, y4, ⟨y5, y7, y8⟩, y6⟩ := HF.out W hW
    go_simp
    first | exact rfl | exact ⟨rfl, hW⟩
   simp only [Act.put, List.setIfInBounds_toArray, List.set_cons_succ, List.set_cons_zero]
   apply Chain.val
   ·rfl
   ·intro W hW
    obtain ⟨y0, y1, y2, y3, y4, ⟨y5, y7, y8⟩, y6⟩ := HF.out W hW
    go_simp
    first | exact rfl | exact ⟨rfl, hW⟩
   simp only [Act.put, List.setIfInBounds_toArray, List.set_cons_succ, List.set_cons_zero]
   apply Chain.val
   ·rfl
   ·intro W hW
    obtain ⟨y0, y1, y2, y3, y4, ⟨y5, y7, y8⟩, y6⟩ := HF.out W hW
    go_simp
    first | exact rfl | exact ⟨rfl, hW⟩
   simp only [Act.put, List.setIfInBounds_toArray, List.set_cons_succ, List.set_cons_zero]
   apply Chain.val
   ·rfl
   ·intro W hW
    obtain ⟨y0, y1, y2, y3, y4, ⟨y5, y7, y8⟩, y6⟩ := HF.out W hW
    go_simp
    first | exact rfl | exact ⟨rfl, hW⟩
   simp only [Act.put, List.setIfInBounds_toArray, List.set_cons_succ, List.set_cons_zero]
   apply Chain.val
   ·rfl
   ·intro W hW
    obtain ⟨y0, y1, y2, y3, y4, ⟨y5, y7, y8⟩, y6⟩ := HF.out W hW
    go_simp
    first | exact rfl | exact ⟨rfl, hW⟩
   simp only [Act.put, List.setIfInBounds_toArray, List.set_cons_succ, List.set_cons_zero]
   refine Chain.skip (by rfl) ?_
   simp only [Act.put, List.setIfInBounds_toArray, List.set_cons_succ, List.set_cons_zero]
   refine Chain.skip (by rfl) ?_
   simp only [Act.put, List.setIfInBounds_toArray, List.set_cons_succ, List.set_cons_zero]
   refine Chain.skip (by rfl) ?_
   simp only [Act.put, List.setIfInBounds_toArray, List.set_cons_succ, List.set_cons_zero]
   refine Chain.skip (by rfl) ?_
   simp only [Act.put, List.setIfInBounds_toArray, List.set_cons_succ, List.set_cons_zero]
   refine Chain.skip (by rfl) ?_
   simp only [Act.put, List.setIfInBounds_toArray, List.set_cons_succ, List.set_cons_zero]
   refine Chain.skip (by rfl) ?_
   simp only [Act.put, List.setIfInBounds_toArray, List.set_cons_succ, List.set_cons_zero]
   refine Chain.skip (by rfl) ?_
   simp only [Act.put, List.setIfInBounds_toArray, List.set_cons_succ, List.set_cons_zero]
   apply Chain.val
   ·rfl
   ·intro W hW
    obtain ⟨y0, y1, y2, y3, y4, ⟨y5, y7, y8⟩, y6⟩ := HF.out W hW
    go_simp
    first | exact rfl | exact ⟨rfl, hW⟩
   simp only [Act.put, List.setIfInBounds_toArray, List.set_cons_succ, List.set_cons_zero]
   apply Chain.val
   ·rfl
   ·intro W hW
    obtain ⟨y0, y1, y2, y3, y4, ⟨y5, y7, y8⟩, y6⟩ := HF.out W hW
    go_simp
    first | exact rfl | exact ⟨rfl, hW⟩
   simp only [Act.put, List.setIfInBounds_toArray, List.set_cons_succ, List.set_cons_zero]
   refine Chain.skip (by rfl) ?_
   simp only [Act.put, List.setIfInBounds_toArray, List.set_cons_succ, List.set_cons_zero]
   refine Chain.skip (by rfl) ?_
   simp only [Act.put, List.setIfInBounds_toArray, List.set_cons_succ, List.set_cons_zero]
   refine Chain.skip (by rfl) ?_
   simp only [Act.put, List.setIfInBounds_toArray, List.set_cons_succ, List.set_cons_zero]
   refine Chain.skip (by rfl) ?_
   simp only [Act.put, List.setIfInBounds_toArray, List.set_cons_succ, List.set_cons_zero]
   refine Chain.skip (by rfl) ?_
   simp only [Act.put, List.setIfInBounds_toArray, List.set_cons_succ, List.set_cons_zero]
   refine Chain.skip (by rfl) ?_
   simp only [Act.put, List.setIfInBounds_toArray, List.set_cons_succ, List.set_cons_zero]
   refine Chain.skip (by rfl) ?_
   simp only [Act.put, List.setIfInBounds_toArray, List.set_cons_succ, List.set_cons_zero]
   refine Chain.skip (by rfl) ?_
   simp only [Act.put, List.setIfInBounds_toArray, List.set_cons_succ, List.set_cons_zero]
   apply Chain.val
   ·rfl
   ·intro W hW
    obtain ⟨y0, y1, y2, y3, y4, ⟨y5, y7, y8⟩, y6⟩ := HF.out W hW
    go_simp
    first | exact rfl | exact ⟨rfl, hW⟩
   simp only [Act.put, List.setIfInBounds_toArray, List.set_cons_succ, List.set_cons_zero]
   apply Chain.val
   ·rfl
   ·intro W hW
    obtain ⟨y0, y1, y2, y3, y4, ⟨y5, y7, y8⟩, y6⟩ := HF.out W hW
    go_simp
    first | exact rfl | exact ⟨rfl, hW⟩
   simp only [Act.put, List.setIfInBounds_toArray, List.set_cons_succ, List.set_cons_zero]
   refine Chain.nil ?_
   intro W hW
   have HW := Aside0.mk hW
   clear hW
   go_wp2
   go_ret
   exact ⟨by unfold firesW; rw [H1.out, H2.out]; rfl, HW.out.2⟩
  | false =>
   rw [h2] at hf
   cases h3 : l3.all (has hs) with
   | false =>
    rw [h3] at hk106
    have HF := Aside0.mk hf
    have H83 := Aside0.mk hk83
    have H106 := Aside0.mk hk106
    have H1 := Aside0.mk h1
    have H2 := Aside0.mk h2
    have H3 := Aside0.mk h3
    clear hf hk83 hk106 hk47 h1 h2 h3
    have hu25 := Tryz.underlying25
    go_enter Tryz.func95, Tryz.ntmps95
    go_wp2
    refine wp_region_steady (by kernel_rfl) (Kept25 w (#[.string a0, .int .i64 a1, .int .i64 a2, .slice A3 l3.length c3, .slice A4 l4.length c4, .string a5] : Array Value)) HK0.out.drew (by decide +kernel) ?_
    apply Chain.val
    ·rfl
    ·intro W hW
     obtain ⟨y0, y1, y2, y3, y4, ⟨y5, y7, y8⟩, y6⟩ := HF.out W hW
     go_simp
     first | exact rfl | exact ⟨rfl, hW⟩
    simp only [Act.put, List.setIfInBounds_toArray, List.set_cons_succ, List.set_cons_zero]
    apply Chain.val
    ·rfl
    ·intro W hW
     obtain ⟨y0, y1, y2, y3, y4, ⟨y5, y7, y8⟩, y6⟩ := HF.out W hW
     go_simp
     first | exact rfl | exact ⟨rfl, hW⟩
    simp only [Act.put, List.setIfInBounds_toArray, List.set_cons_succ, List.set_cons_zero]
    apply Chain.val
    ·rfl
    ·intro W hW
     obtain ⟨y0, y1, y2, y3, y4, ⟨y5, y7, y8⟩, y6⟩ := HF.out W hW
     go_simp
     first | exact rfl | exact ⟨rfl, hW⟩
    simp only [Act.put, List.setIfInBounds_toArray, List.set_cons_succ, List.set_cons_zero]
    apply Chain.val
    ·rfl
    ·intro W hW
     obtain ⟨y0, y1, y2, y3, y4, ⟨y5, y7, y8⟩, y6⟩ := HF.out W hW
     go_simp
     first | exact rfl | exact ⟨rfl, hW⟩
    simp only [Act.put, List.setIfInBounds_toArray, List.set_cons_succ, List.set_cons_zero]
    apply Chain.val
    ·rfl
    ·intro W hW
     obtain ⟨y0, y1, y2, y3, y4, ⟨y5, y7, y8⟩, y6⟩ := HF.out W hW
     go_simp
     first | exact rfl | exact ⟨rfl, hW⟩
    simp only [Act.put, List.setIfInBounds_toArray, List.set_cons_succ, List.set_cons_zero]
    apply Chain.val
    ·rfl
    ·intro W hW
     obtain ⟨y0, y1, y2, y3, y4, ⟨y5, y7, y8⟩, y6⟩ := HF.out W hW
     go_simp
     exact (H83.out W hW).mono fun e w' ⟨he, hb⟩ => ⟨he, hW.below hb⟩
    simp only [Act.put, List.setIfInBounds_toArray, List.set_cons_succ, List.set_cons_zero]
    apply Chain.val
    ·rfl
    ·intro W hW
     obtain ⟨y0, y1, y2, y3, y4, ⟨y5, y7, y8⟩, y6⟩ := HF.out W hW
     go_simp
     first | exact rfl | exact ⟨rfl, hW⟩
    simp only [Act.put, List.setIfInBounds_toArray, List.set_cons_succ, List.set_cons_zero]
    apply Chain.val
    ·rfl
    ·intro W hW
     obtain ⟨y0, y1, y2, y3, y4, ⟨y5, y7, y8⟩, y6⟩ := HF.out W hW
     go_simp
     first | exact rfl | exact ⟨rfl, hW⟩
    simp only [Act.put, List.setIfInBounds_toArray, List.set_cons_succ, List.set_cons_zero]
    apply Chain.val
    ·rfl
    ·intro W hW
     obtain ⟨y0, y1, y2, y3, y4, ⟨y5, y7, y8⟩, y6⟩ := HF.out W hW
     go_simp
     first | exact rfl | exact ⟨rfl, hW⟩
    simp only [Act.put, List.setIfInBounds_toArray, List.set_cons_succ, List.set_cons_zero]
    apply Chain.val
    ·rfl
    ·intro W hW
     obtain ⟨y0, y1, y2, y3, y4, ⟨y5, y7, y8⟩, y6⟩ := HF.out W hW
     go_simp
     first | exact rfl | exact ⟨rfl, hW⟩
    simp only [Act.put, List.setIfInBounds_toArray, List.set_cons_succ, List.set_cons_zero]
    apply Chain.val
    ·rfl
    ·intro W hW
     obtain ⟨y0, y1, y2, y3, y4, ⟨y5, y7, y8⟩, y6⟩ := HF.out W hW
     go_simp
     first | exact rfl | exact ⟨rfl, hW⟩
    simp only [Act.put, List.setIfInBounds_toArray, List.set_cons_succ, List.set_cons_zero]
    apply Chain.val
    ·rfl
    ·intro W hW
     obtain ⟨y0, y1, y2, y3, y4, ⟨y5, y7, y8⟩, y6⟩ := HF.out W hW
     go_simp
     first | exact rfl | exact ⟨rfl, hW⟩
    simp only [Act.put, List.setIfInBounds_toArray, List.set_cons_succ, List.set_cons_zero]
    apply Chain.val
    ·rfl
    ·intro W hW
     obtain ⟨y0, y1, y2, y3, y4, ⟨y5, y7, y8⟩, y6⟩ := HF.out W hW
     go_simp
     first | exact rfl | exact ⟨rfl, hW⟩
    simp only [Act.put, List.setIfInBounds_toArray, List.set_cons_succ, List.set_cons_zero]
    apply Chain.val
    ·rfl
    ·intro W hW
     obtain ⟨y0, y1, y2, y3, y4, ⟨y5, y7, y8⟩, y6⟩ := HF.out W hW
     go_simp
     first | exact rfl | exact ⟨rfl, hW⟩
    simp only [Act.put, List.setIfInBounds_toArray, List.set_cons_succ, List.set_cons_zero]
    apply Chain.val
    ·rfl
    ·intro W hW
     obtain ⟨y0, y1, y2, y3, y4, ⟨y5, y7, y8⟩, y6⟩ := HF.out W hW
     go_simp
     first | exact rfl | exact ⟨rfl, hW⟩
    simp only [Act.put, List.setIfInBounds_toArray, List.set_cons_succ, List.set_cons_zero]
    apply Chain.val
    ·rfl
    ·intro W hW
     obtain ⟨y0, y1, y2, y3, y4, ⟨y5, y7, y8⟩, y6⟩ := HF.out W hW
     go_simp
     first | exact rfl | exact ⟨rfl, hW⟩
    simp only [Act.put, List.setIfInBounds_toArray, List.set_cons_succ, List.set_cons_zero]
    apply Chain.val
    ·rfl
    ·intro W hW
     obtain ⟨y0, y1, y2, y3, y4, ⟨y5, y7, y8⟩, y6⟩ := HF.out W hW
     go_simp
     first | exact rfl | exact ⟨rfl, hW⟩
    simp only [Act.put, List.setIfInBounds_toArray, List.set_cons_succ, List.set_cons_zero]
    apply Chain.val
    ·rfl
    ·intro W hW
     obtain ⟨y0, y1, y2, y3, y4, ⟨y5, y7, y8⟩, y6⟩ := HF.out W hW
     go_simp
     first | exact rfl | exact ⟨rfl, hW⟩
    simp only [Act.put, List.setIfInBounds_toArray, List.set_cons_succ, List.set_cons_zero]
    apply Chain.val
    ·rfl
    ·intro W hW
     obtain ⟨y0, y1, y2, y3, y4, ⟨y5, y7, y8⟩, y6⟩ := HF.out W hW
     go_simp
     first | exact rfl | exact ⟨rfl, hW⟩
    simp only [Act.put, List.setIfInBounds_toArray, List.set_cons_succ, List.set_cons_zero]
    apply Chain.val
    ·rfl
    ·intro W hW
     obtain ⟨y0, y1, y2, y3, y4, ⟨y5, y7, y8⟩, y6⟩ := HF.out W hW
     go_simp
     first | exact rfl | exact ⟨rfl, hW⟩
    simp only [Act.put, List.setIfInBounds_toArray, List.set_cons_succ, List.set_cons_zero]
    apply Chain.val
    ·rfl
    ·intro W hW
     obtain ⟨y0, y1, y2, y3, y4, ⟨y5, y7, y8⟩, y6⟩ := HF.out W hW
     go_simp
     first | exact rfl | exact ⟨rfl, hW⟩
    simp only [Act.put, List.setIfInBounds_toArray, List.set_cons_succ, List.set_cons_zero]
    apply Chain.val
    ·rfl
    ·intro W hW
     obtain ⟨y0, y1, y2, y3, y4, ⟨y5, y7, y8⟩, y6⟩ := HF.out W hW
     go_simp
     first | exact rfl | exact ⟨rfl, hW⟩
    simp only [Act.put, List.setIfInBounds_toArray, List.set_cons_succ, List.set_cons_zero]
    apply Chain.val
    ·rfl
    ·intro W hW
     obtain ⟨y0, y1, y2, y3, y4, ⟨y5, y7, y8⟩, y6⟩ := HF.out W hW
     go_simp
     first | exact rfl | exact ⟨rfl, hW⟩
    simp only [Act.put, List.setIfInBounds_toArray, List.set_cons_succ, List.set_cons_zero]
    apply Chain.val
    ·rfl
    ·intro W hW
     obtain ⟨y0, y1, y2, y3, y4, ⟨y5, y7, y8⟩, y6⟩ := HF.out W hW
     go_simp
     exact (H106.out W hW).mono fun e w' ⟨he, hb⟩ => ⟨he, hW.below hb⟩
    simp only [Act.put, List.setIfInBounds_toArray, List.set_cons_succ, List.set_cons_zero]
    apply Chain.val
    ·rfl
    ·intro W hW
     obtain ⟨y0, y1, y2, y3, y4, ⟨y5, y7, y8⟩, y6⟩ := HF.out W hW
     go_simp
     first | exact rfl | exact ⟨rfl, hW⟩
    simp only [Act.put, List.setIfInBounds_toArray, List.set_cons_succ, List.set_cons_zero]
    apply Chain.val
    ·rfl
    ·intro W hW
     obtain ⟨y0, y1, y2, y3, y4, ⟨y5, y7, y8⟩, y6⟩ := HF.out W hW
     go_simp
     first | exact rfl | exact ⟨rfl, hW⟩
    simp only [Act.put, List.setIfInBounds_toArray, List.set_cons_succ, List.set_cons_zero]
    refine Chain.skip (by rfl) ?_
    simp only [Act.put, List.setIfInBounds_toArray, List.set_cons_succ, List.set_cons_zero]
    refine Chain.skip (by rfl) ?_
    simp only [Act.put, List.setIfInBounds_toArray, List.set_cons_succ, List.set_cons_zero]
    refine Chain.skip (by rfl) ?_
    simp only [Act.put, List.setIfInBounds_toArray, List.set_cons_succ, List.set_cons_zero]
    refine Chain.skip (by rfl) ?_
    simp only [Act.put, List.setIfInBounds_toArray, List.set_cons_succ, List.set_cons_zero]
    refine Chain.skip (by rfl) ?_
    simp only [Act.put, List.setIfInBounds_toArray, List.set_cons_succ, List.set_cons_zero]
    refine Chain.skip (by rfl) ?_
    simp only [Act.put, List.setIfInBounds_toArray, List.set_cons_succ, List.set_cons_zero]
    refine Chain.skip (by rfl) ?_
    simp only [Act.put, List.setIfInBounds_toArray, List.set_cons_succ, List.set_cons_zero]
    refine Chain.skip (by rfl) ?_
    simp only [Act.put, List.setIfInBounds_toArray, List.set_cons_succ, List.set_cons_zero]
    apply Chain.val
    ·rfl
    ·intro W hW
     obtain ⟨y0, y1, y2, y3, y4, ⟨y5, y7, y8⟩, y6⟩ := HF.out W hW
     go_simp
     first | exact rfl | exact ⟨rfl, hW⟩
    simp only [Act.put, List.setIfInBounds_toArray, List.set_cons_succ, List.set_cons_zero]
    apply Chain.val
    ·rfl
    ·intro W hW
     obtain ⟨y0, y1, y2, y3, y4, ⟨y5, y7, y8⟩, y6⟩ := HF.out W hW
     go_simp
     first | exact rfl | exact ⟨rfl, hW⟩
    simp only [Act.put, List.setIfInBounds_toArray, List.set_cons_succ, List.set_cons_zero]
    refine Chain.nil ?_
    intro W hW
    have HW := Aside0.mk hW
    clear hW
    go_wp2
    go_ret
    exact ⟨by unfold firesW; rw [H1.out, H2.out, H3.out]; rfl, HW.out.2⟩
   | true =>
    rw [h3] at hk106
    have HF := Aside0.mk hf
    have H83 := Aside0.mk hk83
    have H106 := Aside0.mk hk106
    have H1 := Aside0.mk h1
    have H2 := Aside0.mk h2
    have H3 := Aside0.mk h3
    cases h4 : l4.any (has hs) with
    | false =>
     rw [h4] at hk47
     have H47 := Aside0.mk hk47
     have H4 := Aside0.mk h4
     clear hf hk83 hk106 hk47 h1 h2 h3 h4
     have hu25 := Tryz.underlying25
     go_enter Tryz.func95, Tryz.ntmps95
     go_wp2
     refine wp_region_steady (by kernel_rfl) (Kept25 w (#[.string a0, .int .i64 a1, .int .i64 a2, .slice A3 l3.length c3, .slice A4 l4.length c4, .string a5] : Array Value)) HK0.out.drew (by decide +kernel) ?_
     apply Chain.val
     ·rfl
     ·intro W hW
      obtain ⟨y0, y1, y2, y3, y4, ⟨y5, y7, y8⟩, y6⟩ := HF.out W hW
      go_simp
      first | exact rfl | exact ⟨rfl, hW⟩
     simp only [Act.put, List.setIfInBounds_toArray, List.set_cons_succ, List.set_cons_zero]
     apply Chain.val
     ·rfl
     ·intro W hW
      obtain ⟨y0, y1, y2, y3, y4, ⟨y5, y7, y8⟩, y6⟩ := HF.out W hW
      go_simp
      first | exact rfl | exact ⟨rfl, hW⟩
     simp only [Act.put, List.setIfInBounds_toArray, List.set_cons_succ, List.set_cons_zero]
     apply Chain.val
     ·rfl
     ·intro W hW
      obtain ⟨y0, y1, y2, y3, y4, ⟨y5, y7, y8⟩, y6⟩ := HF.out W hW
      go_simp
      first | exact rfl | exact ⟨rfl, hW⟩
     simp only [Act.put, List.setIfInBounds_toArray, List.set_cons_succ, List.set_cons_zero]
     apply Chain.val
     ·rfl
     ·intro W hW
      obtain ⟨y0, y1, y2, y3, y4, ⟨y5, y7, y8⟩, y6⟩ := HF.out W hW
      go_simp
      first | exact rfl | exact ⟨rfl, hW⟩
     simp only [Act.put, List.setIfInBounds_toArray, List.set_cons_succ, List.set_cons_zero]
     apply Chain.val
     ·rfl
     ·intro W hW
      obtain ⟨y0, y1, y2, y3, y4, ⟨y5, y7, y8⟩, y6⟩ := HF.out W hW
      go_simp
      first | exact rfl | exact ⟨rfl, hW⟩
     simp only [Act.put, List.setIfInBounds_toArray, List.set_cons_succ, List.set_cons_zero]
     apply Chain.val
     ·rfl
     ·intro W hW
      obtain ⟨y0, y1, y2, y3, y4, ⟨y5, y7, y8⟩, y6⟩ := HF.out W hW
      go_simp
      exact (H83.out W hW).mono fun e w' ⟨he, hb⟩ => ⟨he, hW.below hb⟩
     simp only [Act.put, List.setIfInBounds_toArray, List.set_cons_succ, List.set_cons_zero]
     apply Chain.val
     ·rfl
     ·intro W hW
      obtain ⟨y0, y1, y2, y3, y4, ⟨y5, y7, y8⟩, y6⟩ := HF.out W hW
      go_simp
      first | exact rfl | exact ⟨rfl, hW⟩
     simp only [Act.put, List.setIfInBounds_toArray, List.set_cons_succ, List.set_cons_zero]
     apply Chain.val
     ·rfl
     ·intro W hW
      obtain ⟨y0, y1, y2, y3, y4, ⟨y5, y7, y8⟩, y6⟩ := HF.out W hW
      go_simp
      first | exact rfl | exact ⟨rfl, hW⟩
     simp only [Act.put, List.setIfInBounds_toArray, List.set_cons_succ, List.set_cons_zero]
     apply Chain.val
     ·rfl
     ·intro W hW
      obtain ⟨y0, y1, y2, y3, y4, ⟨y5, y7, y8⟩, y6⟩ := HF.out W hW
      go_simp
      first | exact rfl | exact ⟨rfl, hW⟩
     simp only [Act.put, List.setIfInBounds_toArray, List.set_cons_succ, List.set_cons_zero]
     apply Chain.val
     ·rfl
     ·intro W hW
      obtain ⟨y0, y1, y2, y3, y4, ⟨y5, y7, y8⟩, y6⟩ := HF.out W hW
      go_simp
      first | exact rfl | exact ⟨rfl, hW⟩
     simp only [Act.put, List.setIfInBounds_toArray, List.set_cons_succ, List.set_cons_zero]
     apply Chain.val
     ·rfl
     ·intro W hW
      obtain ⟨y0, y1, y2, y3, y4, ⟨y5, y7, y8⟩, y6⟩ := HF.out W hW
      go_simp
      first | exact rfl | exact ⟨rfl, hW⟩
     simp only [Act.put, List.setIfInBounds_toArray, List.set_cons_succ, List.set_cons_zero]
     apply Chain.val
     ·rfl
     ·intro W hW
      obtain ⟨y0, y1, y2, y3, y4, ⟨y5, y7, y8⟩, y6⟩ := HF.out W hW
      go_simp
      first | exact rfl | exact ⟨rfl, hW⟩
     simp only [Act.put, List.setIfInBounds_toArray, List.set_cons_succ, List.set_cons_zero]
     apply Chain.val
     ·rfl
     ·intro W hW
      obtain ⟨y0, y1, y2, y3, y4, ⟨y5, y7, y8⟩, y6⟩ := HF.out W hW
      go_simp
      first | exact rfl | exact ⟨rfl, hW⟩
     simp only [Act.put, List.setIfInBounds_toArray, List.set_cons_succ, List.set_cons_zero]
     apply Chain.val
     ·rfl
     ·intro W hW
      obtain ⟨y0, y1, y2, y3, y4, ⟨y5, y7, y8⟩, y6⟩ := HF.out W hW
      go_simp
      first | exact rfl | exact ⟨rfl, hW⟩
     simp only [Act.put, List.setIfInBounds_toArray, List.set_cons_succ, List.set_cons_zero]
     apply Chain.val
     ·rfl
     ·intro W hW
      obtain ⟨y0, y1, y2, y3, y4, ⟨y5, y7, y8⟩, y6⟩ := HF.out W hW
      go_simp
      first | exact rfl | exact ⟨rfl, hW⟩
     simp only [Act.put, List.setIfInBounds_toArray, List.set_cons_succ, List.set_cons_zero]
     apply Chain.val
     ·rfl
     ·intro W hW
      obtain ⟨y0, y1, y2, y3, y4, ⟨y5, y7, y8⟩, y6⟩ := HF.out W hW
      go_simp
      first | exact rfl | exact ⟨rfl, hW⟩
     simp only [Act.put, List.setIfInBounds_toArray, List.set_cons_succ, List.set_cons_zero]
     apply Chain.val
     ·rfl
     ·intro W hW
      obtain ⟨y0, y1, y2, y3, y4, ⟨y5, y7, y8⟩, y6⟩ := HF.out W hW
      go_simp
      first | exact rfl | exact ⟨rfl, hW⟩
     simp only [Act.put, List.setIfInBounds_toArray, List.set_cons_succ, List.set_cons_zero]
     apply Chain.val
     ·rfl
     ·intro W hW
      obtain ⟨y0, y1, y2, y3, y4, ⟨y5, y7, y8⟩, y6⟩ := HF.out W hW
      go_simp
      first | exact rfl | exact ⟨rfl, hW⟩
     simp only [Act.put, List.setIfInBounds_toArray, List.set_cons_succ, List.set_cons_zero]
     apply Chain.val
     ·rfl
     ·intro W hW
      obtain ⟨y0, y1, y2, y3, y4, ⟨y5, y7, y8⟩, y6⟩ := HF.out W hW
      go_simp
      first | exact rfl | exact ⟨rfl, hW⟩
     simp only [Act.put, List.setIfInBounds_toArray, List.set_cons_succ, List.set_cons_zero]
     apply Chain.val
     ·rfl
     ·intro W hW
      obtain ⟨y0, y1, y2, y3, y4, ⟨y5, y7, y8⟩, y6⟩ := HF.out W hW
      go_simp
      first | exact rfl | exact ⟨rfl, hW⟩
     simp only [Act.put, List.setIfInBounds_toArray, List.set_cons_succ, List.set_cons_zero]
     apply Chain.val
     ·rfl
     ·intro W hW
      obtain ⟨y0, y1, y2, y3, y4, ⟨y5, y7, y8⟩, y6⟩ := HF.out W hW
      go_simp
      first | exact rfl | exact ⟨rfl, hW⟩
     simp only [Act.put, List.setIfInBounds_toArray, List.set_cons_succ, List.set_cons_zero]
     apply Chain.val
     ·rfl
     ·intro W hW
      obtain ⟨y0, y1, y2, y3, y4, ⟨y5, y7, y8⟩, y6⟩ := HF.out W hW
      go_simp
      first | exact rfl | exact ⟨rfl, hW⟩
     simp only [Act.put, List.setIfInBounds_toArray, List.set_cons_succ, List.set_cons_zero]
     apply Chain.val
     ·rfl
     ·intro W hW
      obtain ⟨y0, y1, y2, y3, y4, ⟨y5, y7, y8⟩, y6⟩ := HF.out W hW
      go_simp
      first | exact rfl | exact ⟨rfl, hW⟩
     simp only [Act.put, List.setIfInBounds_toArray, List.set_cons_succ, List.set_cons_zero]
     apply Chain.val
     ·rfl
     ·intro W hW
      obtain ⟨y0, y1, y2, y3, y4, ⟨y5, y7, y8⟩, y6⟩ := HF.out W hW
      go_simp
      exact (H106.out W hW).mono fun e w' ⟨he, hb⟩ => ⟨he, hW.below hb⟩
     simp only [Act.put, List.setIfInBounds_toArray, List.set_cons_succ, List.set_cons_zero]
     apply Chain.val
     ·rfl
     ·intro W hW
      obtain ⟨y0, y1, y2, y3, y4, ⟨y5, y7, y8⟩, y6⟩ := HF.out W hW
      go_simp
      first | exact rfl | exact ⟨rfl, hW⟩
     simp only [Act.put, List.setIfInBounds_toArray, List.set_cons_succ, List.set_cons_zero]
     apply Chain.val
     ·rfl
     ·intro W hW
      obtain ⟨y0, y1, y2, y3, y4, ⟨y5, y7, y8⟩, y6⟩ := HF.out W hW
      go_simp
      first | exact rfl | exact ⟨rfl, hW⟩
     simp only [Act.put, List.setIfInBounds_toArray, List.set_cons_succ, List.set_cons_zero]
     apply Chain.val
     ·rfl
     ·intro W hW
      obtain ⟨y0, y1, y2, y3, y4, ⟨y5, y7, y8⟩, y6⟩ := HF.out W hW
      go_simp
      first | exact rfl | exact ⟨rfl, hW⟩
     simp only [Act.put, List.setIfInBounds_toArray, List.set_cons_succ, List.set_cons_zero]
     apply Chain.val
     ·rfl
     ·intro W hW
      obtain ⟨y0, y1, y2, y3, y4, ⟨y5, y7, y8⟩, y6⟩ := HF.out W hW
      go_simp
      first | exact rfl | exact ⟨rfl, hW⟩
     simp only [Act.put, List.setIfInBounds_toArray, List.set_cons_succ, List.set_cons_zero]
     apply Chain.val
     ·rfl
     ·intro W hW
      obtain ⟨y0, y1, y2, y3, y4, ⟨y5, y7, y8⟩, y6⟩ := HF.out W hW
      go_simp
      first | exact rfl | exact ⟨rfl, hW⟩
     simp only [Act.put, List.setIfInBounds_toArray, List.set_cons_succ, List.set_cons_zero]
     apply Chain.val
     ·rfl
     ·intro W hW
      obtain ⟨y0, y1, y2, y3, y4, ⟨y5, y7, y8⟩, y6⟩ := HF.out W hW
      go_simp
      first | exact rfl | exact ⟨rfl, hW⟩
     simp only [Act.put, List.setIfInBounds_toArray, List.set_cons_succ, List.set_cons_zero]
     apply Chain.val
     ·rfl
     ·intro W hW
      obtain ⟨y0, y1, y2, y3, y4, ⟨y5, y7, y8⟩, y6⟩ := HF.out W hW
      go_simp
      first | exact rfl | exact ⟨rfl, hW⟩
     simp only [Act.put, List.setIfInBounds_toArray, List.set_cons_succ, List.set_cons_zero]
     apply Chain.val
     ·rfl
     ·intro W hW
      obtain ⟨y0, y1, y2, y3, y4, ⟨y5, y7, y8⟩, y6⟩ := HF.out W hW
      go_simp
      first | exact rfl | exact ⟨rfl, hW⟩
     simp only [Act.put, List.setIfInBounds_toArray, List.set_cons_succ, List.set_cons_zero]
     apply Chain.val
     ·rfl
     ·intro W hW
      obtain ⟨y0, y1, y2, y3, y4, ⟨y5, y7, y8⟩, y6⟩ := HF.out W hW
      go_simp
      exact (H47.out W hW).mono fun e w' ⟨he, hb⟩ => ⟨he, hW.below hb⟩
     simp only [Act.put, List.setIfInBounds_toArray, List.set_cons_succ, List.set_cons_zero]
     apply Chain.val
     ·rfl
     ·intro W hW
      obtain ⟨y0, y1, y2, y3, y4, ⟨y5, y7, y8⟩, y6⟩ := HF.out W hW
      go_simp
      first | exact rfl | exact ⟨rfl, hW⟩
     simp only [Act.put, List.setIfInBounds_toArray, List.set_cons_succ, List.set_cons_zero]
     apply Chain.val
     ·rfl
     ·intro W hW
      obtain ⟨y0, y1, y2, y3, y4, ⟨y5, y7, y8⟩, y6⟩ := HF.out W hW
      go_simp
      first | exact rfl | exact ⟨rfl, hW⟩
     simp only [Act.put, List.setIfInBounds_toArray, List.set_cons_succ, List.set_cons_zero]
     apply Chain.val
     ·rfl
     ·intro W hW
      obtain ⟨y0, y1, y2, y3, y4, ⟨y5, y7, y8⟩, y6⟩ := HF.out W hW
      go_simp
      first | exact rfl | exact ⟨rfl, hW⟩
     simp only [Act.put, List.setIfInBounds_toArray, List.set_cons_succ, List.set_cons_zero]
     refine Chain.nil ?_
     intro W hW
     have HW := Aside0.mk hW
     clear hW
     go_wp2
     go_ret
     exact ⟨by unfold firesW; rw [H1.out, H2.out, H3.out, H4.out]; rfl, HW.out.2⟩
    | true =>
     rw [h4] at hk47
     have H47 := Aside0.mk hk47
     have H4 := Aside0.mk h4
     clear hf hk83 hk106 hk47 h1 h2 h3 h4
     have hu25 := Tryz.underlying25
     go_enter Tryz.func95, Tryz.ntmps95
     go_wp2
     refine wp_region_steady (by kernel_rfl) (Kept25 w (#[.string a0, .int .i64 a1, .int .i64 a2, .slice A3 l3.length c3, .slice A4 l4.length c4, .string a5] : Array Value)) HK0.out.drew (by decide +kernel) ?_
     apply Chain.val
     ·rfl
     ·intro W hW
      obtain ⟨y0, y1, y2, y3, y4, ⟨y5, y7, y8⟩, y6⟩ := HF.out W hW
      go_simp
      first | exact rfl | exact ⟨rfl, hW⟩
     simp only [Act.put, List.setIfInBounds_toArray, List.set_cons_succ, List.set_cons_zero]
     apply Chain.val
     ·rfl
     ·intro W hW
      obtain ⟨y0, y1, y2, y3, y4, ⟨y5, y7, y8⟩, y6⟩ := HF.out W hW
      go_simp
      first | exact rfl | exact ⟨rfl, hW⟩
     simp only [Act.put, List.setIfInBounds_toArray, List.set_cons_succ, List.set_cons_zero]
     apply Chain.val
     ·rfl
     ·intro W hW
      obtain ⟨y0, y1, y2, y3, y4, ⟨y5, y7, y8⟩, y6⟩ := HF.out W hW
      go_simp
      first | exact rfl | exact ⟨rfl, hW⟩
     simp only [Act.put, List.setIfInBounds_toArray, List.set_cons_succ, List.set_cons_zero]
     apply Chain.val
     ·rfl
     ·intro W hW
      obtain ⟨y0, y1, y2, y3, y4, ⟨y5, y7, y8⟩, y6⟩ := HF.out W hW
      go_simp
      first | exact rfl | exact ⟨rfl, hW⟩
     simp only [Act.put, List.setIfInBounds_toArray, List.set_cons_succ, List.set_cons_zero]
     apply Chain.val
     ·rfl
     ·intro W hW
      obtain ⟨y0, y1, y2, y3, y4, ⟨y5, y7, y8⟩, y6⟩ := HF.out W hW
      go_simp
      first | exact rfl | exact ⟨rfl, hW⟩
     simp only [Act.put, List.setIfInBounds_toArray, List.set_cons_succ, List.set_cons_zero]
     apply Chain.val
     ·rfl
     ·intro W hW
      obtain ⟨y0, y1, y2, y3, y4, ⟨y5, y7, y8⟩, y6⟩ := HF.out W hW
      go_simp
      exact (H83.out W hW).mono fun e w' ⟨he, hb⟩ => ⟨he, hW.below hb⟩
     simp only [Act.put, List.setIfInBounds_toArray, List.set_cons_succ, List.set_cons_zero]
     apply Chain.val
     ·rfl
     ·intro W hW
      obtain ⟨y0, y1, y2, y3, y4, ⟨y5, y7, y8⟩, y6⟩ := HF.out W hW
      go_simp
      first | exact rfl | exact ⟨rfl, hW⟩
     simp only [Act.put, List.setIfInBounds_toArray, List.set_cons_succ, List.set_cons_zero]
     apply Chain.val
     ·rfl
     ·intro W hW
      obtain ⟨y0, y1, y2, y3, y4, ⟨y5, y7, y8⟩, y6⟩ := HF.out W hW
      go_simp
      first | exact rfl | exact ⟨rfl, hW⟩
     simp only [Act.put, List.setIfInBounds_toArray, List.set_cons_succ, List.set_cons_zero]
     apply Chain.val
     ·rfl
     ·intro W hW
      obtain ⟨y0, y1, y2, y3, y4, ⟨y5, y7, y8⟩, y6⟩ := HF.out W hW
      go_simp
      first | exact rfl | exact ⟨rfl, hW⟩
     simp only [Act.put, List.setIfInBounds_toArray, List.set_cons_succ, List.set_cons_zero]
     apply Chain.val
     ·rfl
     ·intro W hW
      obtain ⟨y0, y1, y2, y3, y4, ⟨y5, y7, y8⟩, y6⟩ := HF.out W hW
      go_simp
      first | exact rfl | exact ⟨rfl, hW⟩
     simp only [Act.put, List.setIfInBounds_toArray, List.set_cons_succ, List.set_cons_zero]
     apply Chain.val
     ·rfl
     ·intro W hW
      obtain ⟨y0, y1, y2, y3, y4, ⟨y5, y7, y8⟩, y6⟩ := HF.out W hW
      go_simp
      first | exact rfl | exact ⟨rfl, hW⟩
     simp only [Act.put, List.setIfInBounds_toArray, List.set_cons_succ, List.set_cons_zero]
     apply Chain.val
     ·rfl
     ·intro W hW
      obtain ⟨y0, y1, y2, y3, y4, ⟨y5, y7, y8⟩, y6⟩ := HF.out W hW
      go_simp
      first | exact rfl | exact ⟨rfl, hW⟩
     simp only [Act.put, List.setIfInBounds_toArray, List.set_cons_succ, List.set_cons_zero]
     apply Chain.val
     ·rfl
     ·intro W hW
      obtain ⟨y0, y1, y2, y3, y4, ⟨y5, y7, y8⟩, y6⟩ := HF.out W hW
      go_simp
      first | exact rfl | exact ⟨rfl, hW⟩
     simp only [Act.put, List.setIfInBounds_toArray, List.set_cons_succ, List.set_cons_zero]
     apply Chain.val
     ·rfl
     ·intro W hW
      obtain ⟨y0, y1, y2, y3, y4, ⟨y5, y7, y8⟩, y6⟩ := HF.out W hW
      go_simp
      first | exact rfl | exact ⟨rfl, hW⟩
     simp only [Act.put, List.setIfInBounds_toArray, List.set_cons_succ, List.set_cons_zero]
     apply Chain.val
     ·rfl
     ·intro W hW
      obtain ⟨y0, y1, y2, y3, y4, ⟨y5, y7, y8⟩, y6⟩ := HF.out W hW
      go_simp
      first | exact rfl | exact ⟨rfl, hW⟩
     simp only [Act.put, List.setIfInBounds_toArray, List.set_cons_succ, List.set_cons_zero]
     apply Chain.val
     ·rfl
     ·intro W hW
      obtain ⟨y0, y1, y2, y3, y4, ⟨y5, y7, y8⟩, y6⟩ := HF.out W hW
      go_simp
      first | exact rfl | exact ⟨rfl, hW⟩
     simp only [Act.put, List.setIfInBounds_toArray, List.set_cons_succ, List.set_cons_zero]
     apply Chain.val
     ·rfl
     ·intro W hW
      obtain ⟨y0, y1, y2, y3, y4, ⟨y5, y7, y8⟩, y6⟩ := HF.out W hW
      go_simp
      first | exact rfl | exact ⟨rfl, hW⟩
     simp only [Act.put, List.setIfInBounds_toArray, List.set_cons_succ, List.set_cons_zero]
     apply Chain.val
     ·rfl
     ·intro W hW
      obtain ⟨y0, y1, y2, y3, y4, ⟨y5, y7, y8⟩, y6⟩ := HF.out W hW
      go_simp
      first | exact rfl | exact ⟨rfl, hW⟩
     simp only [Act.put, List.setIfInBounds_toArray, List.set_cons_succ, List.set_cons_zero]
     apply Chain.val
     ·rfl
     ·intro W hW
      obtain ⟨y0, y1, y2, y3, y4, ⟨y5, y7, y8⟩, y6⟩ := HF.out W hW
      go_simp
      first | exact rfl | exact ⟨rfl, hW⟩
     simp only [Act.put, List.setIfInBounds_toArray, List.set_cons_succ, List.set_cons_zero]
     apply Chain.val
     ·rfl
     ·intro W hW
      obtain ⟨y0, y1, y2, y3, y4, ⟨y5, y7, y8⟩, y6⟩ := HF.out W hW
      go_simp
      first | exact rfl | exact ⟨rfl, hW⟩
     simp only [Act.put, List.setIfInBounds_toArray, List.set_cons_succ, List.set_cons_zero]
     apply Chain.val
     ·rfl
     ·intro W hW
      obtain ⟨y0, y1, y2, y3, y4, ⟨y5, y7, y8⟩, y6⟩ := HF.out W hW
      go_simp
      first | exact rfl | exact ⟨rfl, hW⟩
     simp only [Act.put, List.setIfInBounds_toArray, List.set_cons_succ, List.set_cons_zero]
     apply Chain.val
     ·rfl
     ·intro W hW
      obtain ⟨y0, y1, y2, y3, y4, ⟨y5, y7, y8⟩, y6⟩ := HF.out W hW
      go_simp
      first | exact rfl | exact ⟨rfl, hW⟩
     simp only [Act.put, List.setIfInBounds_toArray, List.set_cons_succ, List.set_cons_zero]
     apply Chain.val
     ·rfl
     ·intro W hW
      obtain ⟨y0, y1, y2, y3, y4, ⟨y5, y7, y8⟩, y6⟩ := HF.out W hW
      go_simp
      first | exact rfl | exact ⟨rfl, hW⟩
     simp only [Act.put, List.setIfInBounds_toArray, List.set_cons_succ, List.set_cons_zero]
     apply Chain.val
     ·rfl
     ·intro W hW
      obtain ⟨y0, y1, y2, y3, y4, ⟨y5, y7, y8⟩, y6⟩ := HF.out W hW
      go_simp
      exact (H106.out W hW).mono fun e w' ⟨he, hb⟩ => ⟨he, hW.below hb⟩
     simp only [Act.put, List.setIfInBounds_toArray, List.set_cons_succ, List.set_cons_zero]
     apply Chain.val
     ·rfl
     ·intro W hW
      obtain ⟨y0, y1, y2, y3, y4, ⟨y5, y7, y8⟩, y6⟩ := HF.out W hW
      go_simp
      first | exact rfl | exact ⟨rfl, hW⟩
     simp only [Act.put, List.setIfInBounds_toArray, List.set_cons_succ, List.set_cons_zero]
     apply Chain.val
     ·rfl
     ·intro W hW
      obtain ⟨y0, y1, y2, y3, y4, ⟨y5, y7, y8⟩, y6⟩ := HF.out W hW
      go_simp
      first | exact rfl | exact ⟨rfl, hW⟩
     simp only [Act.put, List.setIfInBounds_toArray, List.set_cons_succ, List.set_cons_zero]
     apply Chain.val
     ·rfl
     ·intro W hW
      obtain ⟨y0, y1, y2, y3, y4, ⟨y5, y7, y8⟩, y6⟩ := HF.out W hW
      go_simp
      first | exact rfl | exact ⟨rfl, hW⟩
     simp only [Act.put, List.setIfInBounds_toArray, List.set_cons_succ, List.set_cons_zero]
     apply Chain.val
     ·rfl
     ·intro W hW
      obtain ⟨y0, y1, y2, y3, y4, ⟨y5, y7, y8⟩, y6⟩ := HF.out W hW
      go_simp
      first | exact rfl | exact ⟨rfl, hW⟩
     simp only [Act.put, List.setIfInBounds_toArray, List.set_cons_succ, List.set_cons_zero]
     apply Chain.val
     ·rfl
     ·intro W hW
      obtain ⟨y0, y1, y2, y3, y4, ⟨y5, y7, y8⟩, y6⟩ := HF.out W hW
      go_simp
      first | exact rfl | exact ⟨rfl, hW⟩
     simp only [Act.put, List.setIfInBounds_toArray, List.set_cons_succ, List.set_cons_zero]
     apply Chain.val
     ·rfl
     ·intro W hW
      obtain ⟨y0, y1, y2, y3, y4, ⟨y5, y7, y8⟩, y6⟩ := HF.out W hW
      go_simp
      first | exact rfl | exact ⟨rfl, hW⟩
     simp only [Act.put, List.setIfInBounds_toArray, List.set_cons_succ, List.set_cons_zero]
     apply Chain.val
     ·rfl
     ·intro W hW
      obtain ⟨y0, y1, y2, y3, y4, ⟨y5, y7, y8⟩, y6⟩ := HF.out W hW
      go_simp
      first | exact rfl | exact ⟨rfl, hW⟩
     simp only [Act.put, List.setIfInBounds_toArray, List.set_cons_succ, List.set_cons_zero]
     apply Chain.val
     ·rfl
     ·intro W hW
      obtain ⟨y0, y1, y2, y3, y4, ⟨y5, y7, y8⟩, y6⟩ := HF.out W hW
      go_simp
      first | exact rfl | exact ⟨rfl, hW⟩
     simp only [Act.put, List.setIfInBounds_toArray, List.set_cons_succ, List.set_cons_zero]
     apply Chain.val
     ·rfl
     ·intro W hW
      obtain ⟨y0, y1, y2, y3, y4, ⟨y5, y7, y8⟩, y6⟩ := HF.out W hW
      go_simp
      exact (H47.out W hW).mono fun e w' ⟨he, hb⟩ => ⟨he, hW.below hb⟩
     simp only [Act.put, List.setIfInBounds_toArray, List.set_cons_succ, List.set_cons_zero]
     apply Chain.val
     ·rfl
     ·intro W hW
      obtain ⟨y0, y1, y2, y3, y4, ⟨y5, y7, y8⟩, y6⟩ := HF.out W hW
      go_simp
      first | exact rfl | exact ⟨rfl, hW⟩
     simp only [Act.put, List.setIfInBounds_toArray, List.set_cons_succ, List.set_cons_zero]
     apply Chain.val
     ·rfl
     ·intro W hW
      obtain ⟨y0, y1, y2, y3, y4, ⟨y5, y7, y8⟩, y6⟩ := HF.out W hW
      go_simp
      first | exact rfl | exact ⟨rfl, hW⟩
     simp only [Act.put, List.setIfInBounds_toArray, List.set_cons_succ, List.set_cons_zero]
     apply Chain.val
     ·rfl
     ·intro W hW
      obtain ⟨y0, y1, y2, y3, y4, ⟨y5, y7, y8⟩, y6⟩ := HF.out W hW
      go_simp
      first | exact rfl | exact ⟨rfl, hW⟩
     simp only [Act.put, List.setIfInBounds_toArray, List.set_cons_succ, List.set_cons_zero]
     refine Chain.nil ?_
     intro W hW
     have HW := Aside0.mk hW
     clear hW
     go_wp2
     go_ret
     exact ⟨by unfold firesW; rw [H1.out, H2.out, H3.out, H4.out]; rfl, HW.out.2⟩
end
end Go.Proofs.YtlhkeohcickiaaaGreatDoor.E
namespace Go.Proofs.YtlhkeohcickiaaaGreatDoor.Prot
variable {α : Type} [DecidableEq α] [Inhabited α]
instance : Inhabited (Cl α) := ⟨⟨default, 0, 0, [], [], default⟩⟩
def at_ (book : List (Cl α)) (i : Nat) : Cl α := book.getD i default
def thens (book : List (Cl α)) (order : List Nat) : List α := order.map fun i => (at_ book i).thn
def heldOf (book : List (Cl α)) (facts : List α) (order : List Nat) : List α := facts ++ thens book order
def standsB (ed : Int) (c : Cl α) : Bool := decide (c.lo ≤ ed) && decide (ed ≤ c.hi)
def firesB (ed : Int) (held : List α) (c : Cl α) : Bool := standsB ed c && (c.ifs.all (held.contains ·) && !(c.unl.any (held.contains ·)))
theorem firesB_iff {ed : Int} {held : List α} {c : Cl α} : firesB ed held c = true ↔ standsB ed c = true ∧ (∀ f ∈ c.ifs, f ∈ held) ∧ ∀ f ∈ c.unl, f ∉ held := by
 simp [firesB, List.all_eq_true, List.any_eq_false]
def roundP (lv : α → Nat) (ed : Int) (s : Nat) (held : List α) (c : Cl α) : Bool := decide (lv c.thn = s) && (firesB ed held c && !held.contains c.thn)
def roundL (lv : α → Nat) (ed : Int) (s : Nat) (held : List α) (book : List (Cl α)) : List Nat := (List.range book.length).filter fun i => roundP lv ed s held (at_ book i)
def addOne (book : List (Cl α)) (facts : List α) (order : List Nat) (i : Nat) : List Nat := if (heldOf book facts order).contains (at_ book i).thn then order else order ++ [i]
def addL (book : List (Cl α)) (facts : List α) (l : List Nat) (order : List Nat) : List Nat := l.foldl (addOne book facts) order
def mkLevel (lv : α → Nat) (ed : Int) (book : List (Cl α)) (facts : List α) (s : Nat) : Nat → List Nat → Option (List Nat)
 | 0, _ => none
 | k + 1, order =>
  let l := roundL lv ed s (heldOf book facts order) book
  if l = [] then some order else mkLevel lv ed book facts s k (addL book facts l order)
def mkLevels (lv : α → Nat) (ed : Int) (book : List (Cl α)) (facts : List α) (fuel : Nat) : Nat → Nat → List Nat → Option (List Nat)
 | 0, _, order => some order
 | n + 1, s, order => (mkLevel lv ed book facts s fuel order).bind fun order' => mkLevels lv ed book facts fuel n (s + 1) order'
structure Good (lv : α → Nat) (ed : Int) (book : List (Cl α)) (facts : List α) (order : List Nat) : Prop where
 lt : ∀ i ∈ order, i < book.length
 fresh : ∀ t ∈ thens book order, t ∉ facts
 nodup : (thens book order).Nodup
 came : ∀ pre i post, order = pre ++ i :: post → firesB ed (heldOf book facts pre) (at_ book i) = true
 lev : ∀ pre i post, order = pre ++ i :: post → ∀ j ∈ post, lv (at_ book i).thn ≤ lv (at_ book j).thn
theorem thens_append (book : List (Cl α)) (a b : List Nat) : thens book (a ++ b) = thens book a ++ thens book b := by simp [thens]
theorem mem_heldOf {book : List (Cl α)} {facts : List α} {order : List Nat} {x : α} : x ∈ heldOf book facts order ↔ x ∈ facts ∨ ∃ i ∈ order, (at_ book i).thn = x := by
 simp [heldOf, thens]
theorem heldOf_append (book : List (Cl α)) (facts : List α) (a b : List Nat) : heldOf book facts (a ++ b) = heldOf book facts a ++ thens book b := by simp [heldOf, thens]
theorem mem_roundL {lv : α → Nat} {ed : Int} {s : Nat} {held : List α} {book : List (Cl α)} {i : Nat} :
  i ∈ roundL lv ed s held book ↔ i < book.length ∧ lv (at_ book i).thn = s ∧ firesB ed held (at_ book i) = true ∧ (at_ book i).thn ∉ held := by
 simp [roundL, roundP]
theorem length_le_of_nodup_range {l : List Nat} {n : Nat} (hn : l.Nodup) (h : ∀ i ∈ l, i < n) : l.length ≤ n := by
 induction n generalizing l with
 | zero =>
  cases l with
  | nil => simp
  | cons a l => exact absurd (h a (by simp)) (by omega)
 | succ n ih =>
  have h1 : (l.erase n).length ≤ n := ih (hn.erase _) (fun i hi => by
   have h2 := h i (List.mem_of_mem_erase hi)
   have h3 : i ≠ n := by rintro rfl; exact (List.Nodup.not_mem_erase hn) hi
   omega)
  have h2 := List.length_erase (a := n) (l := l)
  split at h2 <;> omega
theorem nodup_of_map {β γ : Type} (f : β → γ) {l : List β} (h : (l.map f).Nodup) : l.Nodup := by
 induction l with
 | nil => simp
 | cons a l ih =>
  simp only [List.map_cons, List.nodup_cons, List.mem_map, not_exists, not_and] at h
  exact List.nodup_cons.2 ⟨fun ha => h.1 a ha rfl, ih h.2⟩
theorem Good.length_le {lv : α → Nat} {ed : Int} {book : List (Cl α)} {facts : List α} {order : List Nat} (h : Good lv ed book facts order) : order.length ≤ book.length := by
 refine length_le_of_nodup_range ?_ h.lt
 have := h.nodup
 unfold thens at this
 exact nodup_of_map _ this
theorem firesB_mono {ed : Int} {held held' : List α} {c : Cl α} (h : firesB ed held c = true) (hs : ∀ x ∈ held, x ∈ held') (hu : ∀ f ∈ c.unl, f ∉ held') : firesB ed held' c = true := by
 rw [firesB_iff] at h ⊢
 exact ⟨h.1, fun f hf => hs f (h.2.1 f hf), hu⟩
theorem Good.snoc {lv : α → Nat} {ed : Int} {book : List (Cl α)} {facts : List α} {order : List Nat} {i : Nat} (h : Good lv ed book facts order) (hi : i < book.length)
  (hn : (at_ book i).thn ∉ heldOf book facts order) (hf : firesB ed (heldOf book facts order) (at_ book i) = true) (hl : ∀ j ∈ order, lv (at_ book j).thn ≤ lv (at_ book i).thn) :
  Good lv ed book facts (order ++ [i]) := by
 rw [mem_heldOf] at hn
 constructor
 ·intro j hj
  rcases List.mem_append.1 hj with hj | hj
  ·exact h.lt j hj
  ·simp at hj; subst hj; exact hi
 ·intro t ht
  rw [thens_append] at ht
  rcases List.mem_append.1 ht with ht | ht
  ·exact h.fresh t ht
  ·simp [thens] at ht; subst ht; exact fun h' => hn (.inl h')
 ·rw [thens_append, List.nodup_append]
  refine ⟨h.nodup, by simp [thens], ?_⟩
  intro a ha b hb e
  subst e
  simp [thens] at hb
  subst hb
  simp [thens] at ha
  obtain ⟨j, hj, e⟩ := ha
  exact hn (.inr ⟨j, hj, e⟩)
 ·intro pre j post e
  rcases List.append_eq_append_iff.1 e with ⟨az, h1, h2⟩ | ⟨bs, h1, h2⟩
  ·cases az with
   | nil =>
    simp at h1 h2
    obtain ⟨rfl, rfl⟩ := h2
    rw [h1]; exact hf
   | cons a az =>
    simp at h2
  ·cases bs with
   | nil =>
    simp at h1 h2
    obtain ⟨rfl, rfl⟩ := h2
    rw [← h1]; exact hf
   | cons b bs =>
    simp at h2
    obtain ⟨rfl, h2⟩ := h2
    exact h.came pre j bs h1
 ·intro pre j post e k hk
  rcases List.append_eq_append_iff.1 e with ⟨az, h1, h2⟩ | ⟨bs, h1, h2⟩
  ·cases az with
   | nil =>
    simp at h1 h2
    obtain ⟨rfl, rfl⟩ := h2
    cases hk
   | cons a az => simp at h2
  ·cases bs with
   | nil =>
    simp at h1 h2
    obtain ⟨rfl, rfl⟩ := h2
    cases hk
   | cons b bs =>
    simp at h2
    obtain ⟨rfl, h2⟩ := h2
    rw [h2] at hk
    rcases List.mem_append.1 hk with hk | hk
    ·exact h.lev pre j bs h1 k hk
    ·simp at hk; subst hk
     exact hl j (by rw [h1]; simp)
theorem addL_good {lv : α → Nat} {ed : Int} {book : List (Cl α)} {facts : List α} (hfit : Fits lv book) {s : Nat} {start : List Nat} :
  ∀ (l : List Nat) (order : List Nat), Good lv ed book facts order → (∃ more, order = start ++ more ∧ ∀ i ∈ more, lv (at_ book i).thn = s) → (∀ j ∈ order, lv (at_ book j).thn ≤ s) →
  (∀ i ∈ l, i < book.length ∧ lv (at_ book i).thn = s ∧ firesB ed (heldOf book facts start) (at_ book i) = true) →
  Good lv ed book facts (addL book facts l order) ∧ (∃ more, addL book facts l order = start ++ more ∧ ∀ i ∈ more, lv (at_ book i).thn = s) ∧ (∀ j ∈ addL book facts l order, lv (at_ book j).thn ≤ s) ∧
   (∃ more, addL book facts l order = order ++ more) := by
 intro l
 induction l with
 | nil => intro order h1 h2 h3 _; exact ⟨h1, h2, h3, [], by simp [addL]⟩
 | cons i l ih =>
  intro order h1 h2 h3 h4
  obtain ⟨hi, hs, hf⟩ := h4 i (by simp)
  have h4' : ∀ i ∈ l, i < book.length ∧ lv (at_ book i).thn = s ∧ firesB ed (heldOf book facts start) (at_ book i) = true := fun j hj => h4 j (by simp [hj])
  have e : addL book facts (i :: l) order = addL book facts l (addOne book facts order i) := rfl
  rw [e]
  by_cases hc : (heldOf book facts order).contains (at_ book i).thn = true
  ·have : addOne book facts order i = order := by unfold addOne; rw [if_pos hc]
   rw [this]
   exact ih order h1 h2 h3 h4'
  ·have ho : addOne book facts order i = order ++ [i] := by unfold addOne; rw [if_neg hc]
   rw [ho]
   have hn : (at_ book i).thn ∉ heldOf book facts order := by simpa using hc
   obtain ⟨more, hm, hml⟩ := h2
   have hfire : firesB ed (heldOf book facts order) (at_ book i) = true := by
    refine firesB_mono hf (fun x hx => ?_) (fun u hu hx => ?_)
    ·rw [hm, heldOf_append]; exact List.mem_append.2 (.inl hx)
    ·rw [hm, heldOf_append] at hx
     rcases List.mem_append.1 hx with hx | hx
     ·exact ((firesB_iff.1 hf).2.2 u hu) hx
     ·simp [thens] at hx
      obtain ⟨j, hj, rfl⟩ := hx
      have hmem : at_ book i ∈ book := by
       unfold at_; rw [List.getD_eq_getElem?_getD, List.getElem?_eq_getElem hi]; simp
      have := (hfit _ hmem).2 _ hu
      have := hml j hj
      omega
   obtain ⟨r1, r2, r3, r4⟩ := ih (order ++ [i]) (h1.snoc hi hn hfire (fun j hj => by have := h3 j hj; omega))
    ⟨more ++ [i], by rw [hm]; simp, fun j hj => by
     rcases List.mem_append.1 hj with hj | hj
     ·exact hml j hj
     ·simp at hj; subst hj; exact hs⟩
    (fun j hj => by
     rcases List.mem_append.1 hj with hj | hj
     ·exact h3 j hj
     ·simp at hj; subst hj; omega) h4'
   refine ⟨r1, r2, r3, ?_⟩
   obtain ⟨m2, hm2⟩ := r4
   exact ⟨i :: m2, by rw [hm2]; simp⟩
theorem addL_longer {book : List (Cl α)} {facts : List α} {l order : List Nat} (hl : l ≠ []) (hn : ∀ i ∈ l, (at_ book i).thn ∉ heldOf book facts order) : order.length < (addL book facts l order).length := by
 cases l with
 | nil => exact absurd rfl hl
 | cons i l =>
  have h1 : addOne book facts order i = order ++ [i] := by
   unfold addOne
   rw [if_neg]
   have := hn i (by simp)
   simpa using this
  have h2 : ∀ (l : List Nat) (o : List Nat), o.length ≤ (addL book facts l o).length := by
   intro l
   induction l with
   | nil => intro o; exact Nat.le_refl _
   | cons j l ih =>
    intro o
    refine Nat.le_trans ?_ (ih (addOne book facts o j))
    unfold addOne
    split <;> simp
  have h3 := h2 l (order ++ [i])
  have e : addL book facts (i :: l) order = addL book facts l (order ++ [i]) := by
   show addL book facts l (addOne book facts order i) = _
   rw [h1]
  rw [e]
  simp at h3
  omega
def Shut (lv : α → Nat) (ed : Int) (book : List (Cl α)) (facts : List α) (s : Nat) (order : List Nat) : Prop := roundL lv ed s (heldOf book facts order) book = []
theorem mkLevel_good {lv : α → Nat} {ed : Int} {book : List (Cl α)} {facts : List α} (hfit : Fits lv book) {s : Nat} :
  ∀ (k : Nat) (order : List Nat), Good lv ed book facts order → (∀ j ∈ order, lv (at_ book j).thn ≤ s) → book.length < order.length + k →
  ∃ order', mkLevel lv ed book facts s k order = some order' ∧ Good lv ed book facts order' ∧ (∀ j ∈ order', lv (at_ book j).thn ≤ s) ∧ Shut lv ed book facts s order' ∧
   ∃ more, order' = order ++ more ∧ ∀ i ∈ more, lv (at_ book i).thn = s := by
 intro k
 induction k with
 | zero => intro order h1 _ h3; have := h1.length_le; omega
 | succ k ih =>
  intro order h1 h2 h3
  unfold mkLevel
  by_cases he : roundL lv ed s (heldOf book facts order) book = []
  ·exact ⟨order, by simp [he], h1, h2, he, [], by simp, by simp⟩
  ·simp only [he, if_false]
   have hr : ∀ i ∈ roundL lv ed s (heldOf book facts order) book, i < book.length ∧ lv (at_ book i).thn = s ∧ firesB ed (heldOf book facts order) (at_ book i) = true := by
    intro i hi; rw [mem_roundL] at hi; exact ⟨hi.1, hi.2.1, hi.2.2.1⟩
   obtain ⟨g1, g2, g3, _⟩ := addL_good hfit (start := order) (roundL lv ed s (heldOf book facts order) book) order h1 ⟨[], by simp, by simp⟩ h2 hr
   have hlen := addL_longer (book := book) (facts := facts) he (fun i hi => (mem_roundL.1 hi).2.2.2)
   obtain ⟨o', r1, r2, r3, r4, m', r5, r6⟩ := ih _ g1 g3 (by omega)
   obtain ⟨m, hm, hml⟩ := g2
   refine ⟨o', r1, r2, r3, r4, m ++ m', by rw [r5, hm]; simp, fun i hi => ?_⟩
   rcases List.mem_append.1 hi with hi | hi
   ·exact hml i hi
   ·exact r6 i hi
theorem Shut.later {lv : α → Nat} {ed : Int} {book : List (Cl α)} {facts : List α} (hfit : Fits lv book) {s : Nat} {order more : List Nat} (h : Shut lv ed book facts s order)
  (hm : ∀ i ∈ more, s < lv (at_ book i).thn) : Shut lv ed book facts s (order ++ more) := by
 unfold Shut at *
 rw [List.eq_nil_iff_forall_not_mem] at h ⊢
 intro i hi
 rw [mem_roundL] at hi
 obtain ⟨h1, h2, h3, h4⟩ := hi
 have hmem : at_ book i ∈ book := by
  unfold at_; rw [List.getD_eq_getElem?_getD, List.getElem?_eq_getElem h1]; simp
 have hff := hfit _ hmem
 refine h i (mem_roundL.2 ⟨h1, h2, ?_, ?_⟩)
 ·rw [firesB_iff] at h3 ⊢
  refine ⟨h3.1, fun f hf => ?_, fun f hf hx => h3.2.2 f hf ?_⟩
  ·have hx := h3.2.1 f hf
   rw [heldOf_append] at hx
   rcases List.mem_append.1 hx with hx | hx
   ·exact hx
   ·simp [thens] at hx
    obtain ⟨j, hj, rfl⟩ := hx
    have := hff.1 _ hf
    have := hm j hj
    omega
  ·rw [heldOf_append]; exact List.mem_append.2 (.inl hx)
 ·intro hx; exact h4 (by rw [heldOf_append]; exact List.mem_append.2 (.inl hx))
theorem mkLevels_good {lv : α → Nat} {ed : Int} {book : List (Cl α)} {facts : List α} (hfit : Fits lv book) (fuel : Nat) (hfuel : book.length < fuel) :
  ∀ (n s : Nat) (order : List Nat), Good lv ed book facts order → (∀ j ∈ order, lv (at_ book j).thn < s) → (∀ t, t < s → Shut lv ed book facts t order) →
  ∃ order', mkLevels lv ed book facts fuel n s order = some order' ∧ Good lv ed book facts order' ∧ (∀ j ∈ order', lv (at_ book j).thn < s + n) ∧ (∀ t, t < s + n → Shut lv ed book facts t order') ∧ ∃ more, order' = order ++ more := by
 intro n
 induction n with
 | zero => intro s order h1 h2 h3; exact ⟨order, rfl, h1, h2, h3, [], by simp⟩
 | succ n ih =>
  intro s order h1 h2 h3
  obtain ⟨o1, r1, r2, r3, r4, m, r5, r6⟩ := mkLevel_good (ed := ed) (facts := facts) hfit (s := s) fuel order h1 (fun j hj => by have := h2 j hj; omega) (by omega)
  obtain ⟨o2, q1, q2, q3, q4, m2, q5⟩ := ih (s + 1) o1 r2 (fun j hj => by have := r3 j hj; omega) (fun t ht => by
   by_cases e : t = s
   ·subst e; exact r4
   ·rw [r5]; exact (h3 t (by omega)).later hfit (fun i hi => by have := r6 i hi; omega))
  refine ⟨o2, ?_, q2, fun j hj => by have := q3 j hj; omega, fun t ht => q4 t (by omega), m ++ m2, by rw [q5, r5]; simp⟩
  unfold mkLevels
  rw [r1]; exact q1
def made (lv : α → Nat) (top : Nat) (ed : Int) (book : List (Cl α)) (facts : List α) : List Nat := (mkLevels lv ed book facts (book.length + 1) (top + 1) 0 []).getD []
theorem Good.nil (lv : α → Nat) (ed : Int) (book : List (Cl α)) (facts : List α) : Good lv ed book facts [] := by
 constructor
 ·simp
 ·simp [thens]
 ·simp [thens]
 ·intro pre i post e; simp at e
 ·intro pre i post e; simp at e
theorem made_spec {lv : α → Nat} {top : Nat} {ed : Int} {book : List (Cl α)} (facts : List α) (hfit : Fits lv book) (htop : ∀ c ∈ book, lv c.thn ≤ top) :
  mkLevels lv ed book facts (book.length + 1) (top + 1) 0 [] = some (made lv top ed book facts) ∧ Good lv ed book facts (made lv top ed book facts) ∧ ∀ t, Shut lv ed book facts t (made lv top ed book facts) := by
 obtain ⟨o, r1, r2, _, r4, _⟩ := mkLevels_good (ed := ed) (facts := facts) hfit (book.length + 1) (by omega) (top + 1) 0 [] (Good.nil ..) (by simp) (by intro t ht; omega)
 have e : made lv top ed book facts = o := by unfold made; rw [r1]; rfl
 rw [e]
 refine ⟨r1, r2, fun t => ?_⟩
 by_cases ht : t < 0 + (top + 1)
 ·exact r4 t ht
 ·unfold Shut
  rw [List.eq_nil_iff_forall_not_mem]
  intro i hi
  rw [mem_roundL] at hi
  have hmem : at_ book i ∈ book := by
   unfold at_; rw [List.getD_eq_getElem?_getD, List.getElem?_eq_getElem hi.1]; simp
  have := htop _ hmem
  omega
end Go.Proofs.YtlhkeohcickiaaaGreatDoor.Prot

