/- LawProtestBooks, part 27 of 35: my texts (walks of the program over sparse frames, plain laws, and texts that print.py printed for this seat), without what the statement does not reach. -/
import Derived.Test.YtlhkeohcickiaaaGreatDoorKB25
import Derived.Test.YtlhkeohcickiaaaGreatDoorKB26
import Derived.Test.YtlhkeohcickiaaaGreatDoorKB23
import Derived.Deep.Upon
import Derived.Test.YtlhkeohcickiaaaGreatDoorKB21
import Derived.Sort.Walk0
set_option linter.all false
namespace Go.Proofs.YtlhkeohcickiaaaGreatDoor.E
open Go.RowKit Go.Proofs.YtlhkeohcickiaaaGreatDoor.H Go.Proofs.YtlhkeohcickiaaaGreatDoorW.PrintWords Go.Proofs.YtlhkeohcickiaaaGreatDoorW.PrintLast Go.Proofs.YtlhkeohcickiaaaGreatDoorW.PrintMore
section
theorem bytes_inj (a b : ByteArray) : a.toList = b.toList ↔ a = b := by
 constructor
 ·intro h
  rw [Lib.toList_data, Lib.toList_data] at h
  rw [← Lib.mk_data a, ← Lib.mk_data b, h]
 ·rintro rfl; rfl
theorem Has_loop (l : List ByteArray) (a : ByteArray) (hl : l.length ≤ 9223372036854775807) : ∀ (d k i : Nat), i ≤ l.length → l.length - i = d → d < k → besomref09_Has.l0 k l a (i : Int) = some (decide (a ∈ l.drop i)) := by
 intro d
 induction d with
 | zero =>
  intro k i h1 h2 h3
  obtain ⟨k, rfl⟩ : ∃ m, k = m + 1 := ⟨k - 1, by omega⟩
  simp only [besomref09_Has.l0]
  rw [if_neg (by omega), List.drop_of_length_le (by omega)]
  rfl
 | succ d ih =>
  intro k i h1 h2 h3
  obtain ⟨k, rfl⟩ : ∃ m, k = m + 1 := ⟨k - 1, by omega⟩
  have hi : i < l.length := by omega
  have hn := ih k (i + 1) (by omega) (by omega) (by omega)
  have hw : wrap64 ((i : Int) + 1) = ((i + 1 : Nat) : Int) := by rw [wrap64_of (by omega) (by omega)]; omega
  have hg : l.getD i ByteArray.empty = l[i] := by simp [List.getD_eq_getElem?_getD, List.getElem?_eq_getElem hi]
  simp only [besomref09_Has.l0]
  rw [if_pos (by omega), if_pos (by omega), hw, hn, rdOf_nat, hg, List.drop_eq_getElem_cons hi]
  generalize l[i] = x
  generalize List.drop (i + 1) l = t
  by_cases e : x = a
  ·rw [if_pos (by rw [e]), ← e]; simp
  ·rw [if_neg (fun h => e ((bytes_inj _ _).1 h))]
   have e' : ¬ a = x := fun h => e h.symm
   simp [e']
theorem Has_eq (l : List ByteArray) (a : ByteArray) (k : Nat) (hl : l.length ≤ 9223372036854775807) (hk : l.length < k) : besomref09_Has.f k l a = some (decide (a ∈ l)) := by
 have := Has_loop l a hl l.length k 0 (by omega) (by omega) hk
 simpa [besomref09_Has.f] using this
theorem in_eq (a b c : Int) : besomref09_in.f a b c = some (decide (b ≤ a) && decide (a ≤ c)) := by
 unfold besomref09_in.f besomref02_In.f
 by_cases h : b ≤ a <;> simp [h]
theorem CC_loop (l m : List ByteArray) (a0 : ByteArray) (a1 a2 : Int) (a5 : ByteArray) (hl : l.length ≤ 9223372036854775807) (hm : m.length ≤ 9223372036854775807) : ∀ (d k i : Nat), i ≤ l.length → l.length - i = d → d + m.length < k →
  besomref09_CheckClause.l0 k (i : Int) a0 a1 a2 l m a5 = some (!(l.drop i).any fun s => decide (s ∈ m)) := by
 intro d
 induction d with
 | zero =>
  intro k i h1 h2 h3
  obtain ⟨k, rfl⟩ : ∃ m, k = m + 1 := ⟨k - 1, by omega⟩
  simp only [besomref09_CheckClause.l0]
  rw [if_neg (by omega), List.drop_of_length_le (by omega)]
  rfl
 | succ d ih =>
  intro k i h1 h2 h3
  obtain ⟨k, rfl⟩ : ∃ m, k = m + 1 := ⟨k - 1, by omega⟩
  have hi : i < l.length := by omega
  have hn := ih k (i + 1) (by omega) (by omega) (by omega)
  have hw : wrap64 ((i : Int) + 1) = ((i + 1 : Nat) : Int) := by rw [wrap64_of (by omega) (by omega)]; omega
  have hg : l.getD i ByteArray.empty = l[i] := by simp [List.getD_eq_getElem?_getD, List.getElem?_eq_getElem hi]
  simp only [besomref09_CheckClause.l0]
  rw [if_pos (by omega), if_pos (by omega), hw, hn, rdOf_nat, hg, Has_eq _ _ _ hm (by omega), List.drop_eq_getElem_cons hi]
  simp only [Option.bind_some]
  generalize l[i] = x
  generalize List.drop (i + 1) l = t
  by_cases e : x ∈ m <;> simp [e]
theorem disj_swap (l m : List ByteArray) : (!l.any fun s => decide (s ∈ m)) = disjB l m := by
 unfold disjB
 congr 1
 rw [Bool.eq_iff_iff]
 simp only [List.any_eq_true, decide_eq_true_eq]
 exact ⟨fun ⟨x, h1, h2⟩ => ⟨x, h2, h1⟩, fun ⟨x, h1, h2⟩ => ⟨x, h2, h1⟩⟩
theorem CheckClause_eq (a0 : ByteArray) (a1 a2 : Int) (l m : List ByteArray) (a5 : ByteArray) (k : Nat) (hl : l.length ≤ 9223372036854775807) (hm : m.length ≤ 9223372036854775807) (hk : l.length + m.length + 41 < k) :
  besomref09_CheckClause.f k a0 a1 a2 l m a5 = some (okB a0 a1 a2 l m a5) := by
 have hj : ∀ b, besomref09_CheckClause.j0 k b a0 a1 a2 l m a5 = some (if b = true then false else disjB l m) := by
  intro b
  obtain ⟨k, rfl⟩ : ∃ m, k = m + 1 := ⟨k - 1, by omega⟩
  simp only [besomref09_CheckClause.j0]
  have := CC_loop l m a0 a1 a2 a5 hl hm l.length k 0 (by omega) (by omega) (by omega)
  rw [List.drop_zero, disj_swap] at this
  cases b
  ·exact this
  ·rfl
 unfold besomref09_CheckClause.f okB
 simp only [hj, Name_eq _ _ (show 40 ≤ k by omega), in_eq, names_eq _ _ _ hl (show l.length + 40 < k by omega), names_eq _ _ _ hm (show m.length + 40 < k by omega), Option.bind_some]
 by_cases h1 : nameB a0 = true
 case neg => rw [if_neg h1]; simp [Bool.not_eq_true _ ▸ h1]
 rw [if_pos h1, h1]
 by_cases h2 : nameB a5 = true
 case neg => rw [if_neg h2]; simp [Bool.not_eq_true _ ▸ h2]
 rw [if_pos h2, h2]
 by_cases h3 : (decide (0 ≤ a1) && decide (a1 ≤ a2)) = true
 case neg => rw [if_neg h3]; simp [Bool.not_eq_true _ ▸ h3]
 rw [if_pos h3, h3]
 by_cases h4 : a2 > 1000
 ·rw [if_pos h4]; have : ¬ a2 ≤ 1000 := by omega
  simp [this]
 ·rw [if_neg h4]
  have : a2 ≤ 1000 := by omega
  by_cases h5 : risingB l 8 = true
  case neg => rw [if_neg h5]; simp [Bool.not_eq_true _ ▸ h5]
  rw [if_pos h5, h5]
  cases risingB m 8 <;> simp [this]
end
section
open Prot (heldOf Good Fits at_ firesB mkLevel mkLevels)
theorem drawn_below {w w' : World} (h : Drawn0 w w') : Below w.heap.size w w' := by
 obtain ⟨n, rfl⟩ := h
 exact pw_below_drewN (Below.refl _ _) _
theorem name_any (s : ByteArray) (w : World) : Calls Tryz.prog 44 #[.string s] w fun e w' => e = .returned (.bool (nameB s)) ∧ Below w.heap.size w w' :=
 (besomref09_Name.calls 40 s _ w (Name_eq s 40 (Nat.le_refl _))).mono fun _ _ h => ⟨h.1, drawn_below h.2⟩
theorem chk_any (x : S25) (A3 : Option Addr) (c3 : Nat) (A4 : Option Addr) (c4 : Nat) (w : World) (g3 : Kd.C Kd.string w A3 x.f3.length x.f3) (l3 : x.f3.length ≤ c3) (g4 : Kd.C Kd.string w A4 x.f4.length x.f4) (l4 : x.f4.length ≤ c4) :
  Calls Tryz.prog 17 #[.agg #[.string x.f0, .int .i64 x.f1, .int .i64 x.f2, .slice A3 x.f3.length c3, .slice A4 x.f4.length c4, .string x.f5]] w fun e w' => e = .returned (.bool (okC x)) ∧ Below w.heap.size w w' :=
 (besomref09_CheckClause.calls (x.f3.length + x.f4.length + 42) x.f0 x.f1 x.f2 A3 c3 x.f3 A4 c4 x.f4 x.f5 _ w g3 l3 g4 l4 (CheckClause_eq x.f0 x.f1 x.f2 x.f3 x.f4 x.f5 _ g3.2.1 g4.2.1 (by omega))).mono fun _ _ h => ⟨h.1, h.2⟩
abbrev RS (W : World) (base : Nat) (v : Value) (xs : List ByteArray) : Prop := Kd.R Kd.string 9 W base (fun _ => True) v xs
abbrev RI (W : World) (base : Nat) (v : Value) (xs : List Int) : Prop := Kd.R (Kd.int .i64) 3 W base (fun _ => True) v xs
structure MkSt (w0 : World) (ab mb r : Nat) (m : List (ByteArray × Nat)) (Sv : Value) (st : List ByteArray) (hl : List ByteArray) (ol : List Int) (Hv Rv : Value) (W : World) : Prop where
 below : Below w0.heap.size w0 W
 map : H.MapAt H.encS W r (emb m)
 blk : W.heap[mb]? = some (.cells #[Hv, Rv] 80 (0, 0))
 hmb : w0.heap.size ≤ mb
 abk : W.heap[ab]? = some (.cells #[.slice none 0 0, .slice none 0 0] 80 (0, 0))
 hab : w0.heap.size ≤ ab ∧ ab ≠ mb
 rs : RS W w0.heap.size Sv st
 rh : RS W w0.heap.size Hv hl
 rr : RI W w0.heap.size Rv ol
theorem MkSt.lt {w0 : World} {ab mb r : Nat} {m : List (ByteArray × Nat)} {Sv Hv Rv : Value} {st hl : List ByteArray} {ol : List Int} {W : World} (h : MkSt w0 ab mb r m Sv st hl ol Hv Rv W) : mb < W.heap.size := (Array.getElem?_eq_some_iff.1 h.blk).1
theorem MkSt.after {w0 : World} {ab mb r : Nat} {m : List (ByteArray × Nat)} {Sv Hv Rv : Value} {st hl : List ByteArray} {ol : List Int} {W W' : World} (h : MkSt w0 ab mb r m Sv st hl ol Hv Rv W) (hb : Below W.heap.size W W') : MkSt w0 ab mb r m Sv st hl ol Hv Rv W' :=
 ⟨below_then h.below h.below.size hb, h.map.below hb h.map.lt, (hb.block mb h.lt).trans h.blk, h.hmb, (hb.block ab (Array.getElem?_eq_some_iff.1 h.abk).1).trans h.abk, h.hab, Kd.R_below h.rs hb, Kd.R_below h.rh hb, Kd.R_below h.rr hb⟩
theorem MkSt.cells {w0 : World} {ab mb r : Nat} {m : List (ByteArray × Nat)} {Sv Hv Rv : Value} {st hl : List ByteArray} {ol : List Int} {W : World} (h : MkSt w0 ab mb r m Sv st hl ol Hv Rv W) :
  W.cell? ⟨mb, 0, none⟩ = some Hv ∧ W.cell? ⟨mb, 1, none⟩ = some Rv ∧ W.frozen? ⟨mb, 0, none⟩ = false ∧ W.frozen? ⟨mb, 1, none⟩ = false := by
 refine ⟨?_, ?_, ?_, ?_⟩
 ·unfold World.cell?; rw [h.blk]; rfl
 ·unfold World.cell?; rw [h.blk]; rfl
 ·unfold World.frozen?; rw [h.blk]; rfl
 ·unfold World.frozen?; rw [h.blk]; rfl
end
section
open Prot (heldOf roundL roundP addL addOne mkLevel mkLevels at_ firesB Good Fits)
attribute [local go_sem] slk sget sput uponK_value uponK_skip uponK_enter
attribute [local go_sem] PureRes_value PureRes_skip
end
section
open Prot (heldOf roundL roundP addL addOne mkLevel mkLevels at_ firesB Good Fits)
attribute [local go_sem] slk sget sput uponK_value uponK_skip uponK_enter
open Prot (mkLevel mkLevels)
attribute [local go_sem] PureRes_value PureRes_skip
end
section
open Prot (heldOf roundL roundP addL addOne mkLevel mkLevels at_ firesB Good Fits)
attribute [local go_sem] slk sget sput uponK_value uponK_skip uponK_enter
def besomref09_Check.f (l0 : List S25) : Option (Int × Int) := some ((errOf (boundOf l0)).getD (-1, 0))
theorem bound_of (l0 : List S25) : boundOf l0 = if 64 < l0.length then .error (-1, 3) else match firstBad l0 0 with
  | some i => .error ((i : Nat), 2)
  | none => match Prot.levels (l0.map toC) with
   | none => .error (-1, 9)
   | some m => .ok m := rfl
set_option maxRecDepth 100000 in
set_option maxHeartbeats 4000000 in
theorem check_ref (A0 : Option Addr) (c0 : Nat) (l0 : List S25) (w : World) (hr0 : Kd.C k25 w A0 l0.length l0) : Calls Tryz.prog 13 #[.slice A0 l0.length c0] w fun e w' => e = .returned (.tuple #[.int .i64 ((errOf (boundOf l0)).getD (-1, 0)).1, .int .i64 ((errOf (boundOf l0)).getD (-1, 0)).2]) ∧ Below w.heap.size w w' := by
 have hu25 := Tryz.underlying25
 have HR := Aside0.mk hr0
 have hbd := bound_of l0
 have HBD := Aside0.mk hbd
 have HLC := Aside0.mk (levels_calls A0 c0 l0)
 have h63 := hr0.2.1
 clear hr0 hbd
 refine callsK (args := [.slice A0 l0.length c0]) Tryz.func13 rfl Tryz.ntmps13 (by simp) fun a HF0 => ?_
 have HF : Fr 30 [] [(0, .slice A0 l0.length c0)] a := HF0
 clear HF0
 refine wpIn_seq ?_
 refine wpIn_region_k (fun _ => trivial) rfl wideC HF fun K hK => ?_
 iterate 2 (refine OpsK.step rfl rfl rfl ?_; go_simp)
 refine OpsK.nil (hK _ _ fun a' hf' => ?_)
 clear hK K HF
 have HF : Fr 30 [] [(0, .slice A0 l0.length c0)] a' := hf'.sub ⟨rfl, trivial⟩
 clear hf'
 refine wpIn_seq (wpIn_seq ?_)
 by_cases h64 : 64 < l0.length
 ·have h64' : (64 : Int) < ((l0.length : Nat) : Int) := by omega
  have hb : boundOf l0 = .error (-1, 3) := by rw [HBD.out, if_pos h64]
  have HB := Aside0.mk hb
  clear hb h64
  refine wpIn_region_k (fun _ => trivial) rfl wideC HF fun K hK => ?_
  iterate 3 (refine OpsK.step rfl rfl rfl ?_; go_simp)
  refine OpsK.nil (hK _ _ fun a' hf' => ?_)
  clear hK K HF
  have HF : Fr 30 [] [(9, .bool true)] a' := hf'.sub ⟨rfl, trivial⟩
  clear hf'
  refine wpIn_cond_true (HF.tmp rfl) (wpIn_seq ?_)
  refine wpIn_region_k (fun _ => trivial) rfl wideC HF fun K hK => ?_
  iterate 2 (refine OpsK.step rfl rfl rfl ?_; go_simp)
  refine OpsK.nil (hK _ _ fun a9 hf' => ?_)
  clear hK K HF
  have HF : Fr 30 [] [(2, .int .i64 (-1)), (3, .int .i64 3)] a9 := hf'.sub ⟨rfl, rfl, trivial⟩
  clear hf'
  refine wpIn_ret ?_
  try simp only [Exit.then, Exit.inBlock, ↓reduceIte]
  exact HF.ret2 rfl rfl rfl ⟨by rw [HB.out]; rfl, Below.refl _ _⟩
 ·have h64' : ¬ (64 : Int) < ((l0.length : Nat) : Int) := by omega
  have hb := HBD.out
  rw [if_neg h64] at hb
  have HB := Aside0.mk hb
  have HLN : Aside0 (l0.length ≤ 64) := ⟨by omega⟩
  clear hb
  refine wpIn_region_k (fun _ => trivial) rfl wideC HF fun K hK => ?_
  iterate 3 (refine OpsK.step rfl rfl rfl ?_; go_simp)
  refine OpsK.nil (hK _ _ fun a' hf' => ?_)
  clear hK K HF
  have HF : Fr 30 [] [(0, .slice A0 l0.length c0), (9, .bool false)] a' := hf'.sub ⟨rfl, rfl, trivial⟩
  clear hf'
  clear h64'
  refine wpIn_cond_false (HF.tmp rfl) (wpIn_skip ?_)
  refine wpIn_seq ?_
  refine wpIn_seq ?_
  refine wpIn_region_k (fun _ => trivial) rfl wideC HF fun K hK => ?_
  refine OpsK.step rfl rfl rfl ?_
  go_simp
  refine OpsK.nil (hK _ _ fun a' hf' => ?_)
  clear hK K HF
  have HF : Fr 30 [] [(0, .slice A0 l0.length c0), (4, .int .i64 0)] a' := hf'.sub ⟨rfl, rfl, trivial⟩
  clear hf'
  refine wpIn_block (wpIn_loop (fun a wr => ∃ j : Nat, j ≤ l0.length ∧ Fr 30 [] [(0, .slice A0 l0.length c0), (4, .int .i64 (j : Nat))] a ∧ firstBad l0 0 = firstBad (l0.drop j) j ∧ Below w.heap.size w wr)
   (fun a _ => l0.length - (intOf (a.eval (.tmp 4))).toNat) ⟨0, Nat.zero_le _, HF, rfl, Below.refl _ _⟩ ?_)
  clear HF
  rintro a wr ⟨j, hj, HF, hfb, hbw⟩
  have hmu : l0.length - (intOf (a.eval (.tmp 4))).toNat = l0.length - j := by rw [HF.tmp (k := 4) rfl]; simp [intOf]
  rw [hmu]
  clear hmu
  have HFB := Aside0.mk hfb
  have HBW := Aside0.mk hbw
  clear hfb hbw
  refine wpIn_seq (wpIn_seq ?_)
  by_cases hjl : j < l0.length
  ·have hlt : ((j : Nat) : Int) < ((l0.length : Nat) : Int) := by omega
   have hr0r := Kd.C_below HR.out HBW.out
   obtain ⟨ad, A3, c3, A4, c4, hA0, x0, x1, x2, x3, x4, x5, l3, g3, l4, g4⟩ := at_T25 hr0r (j : Int) (by omega) (by omega)
   simp only [Int.toNat_natCast] at x0 x1 x2 x3 x4 x5
   have hyes := firstBad_yes l0 j hjl
   have hno := firstBad_no l0 j hjl
   obtain ⟨x, hx⟩ : ∃ x, x = rd_T25 l0 (j : Int) := ⟨_, rfl⟩
   rw [← hx] at x0 x1 x2 x3 x4 x5 l3 g3 l4 g4 hyes hno
   have HCK := Aside0.mk (chk_any x A3 c3 A4 c4 wr g3 l3 g4 l4)
   have HYES := Aside0.mk hyes
   have HNO := Aside0.mk hno
   have HWJ := Aside0.mk (wrapJ (j := j) (by omega))
   have HAA := Aside0.mk hA0
   rw [hA0] at HF
   clear hyes hno hx g3 g4 l3 l4 hr0r hA0
   refine wpIn_region_k (fun _ => trivial) rfl wideC HF fun K hK => ?_
   iterate 4 (refine OpsK.step rfl rfl rfl ?_; go_simp)
   refine OpsK.nil (hK _ _ fun a' hf' => ?_)
   clear hK K HF
   have HF : Fr 30 [] [(0, .slice (some ad) l0.length c0), (4, .int .i64 (j : Nat)), (13, .bool true)] a' := hf'.sub ⟨rfl, rfl, rfl, trivial⟩
   clear hf'
   refine wpIn_cond_true (HF.tmp rfl) (wpIn_skip ?_)
   show Code.wpIn _ _ _ (Code.seq _ _) _ _ _
   refine wpIn_seq (wpIn_block (wpIn_seq ?_))
   obtain ⟨ok, hok⟩ : ∃ ok, ok = okC x := ⟨_, rfl⟩
   have HOK := Aside0.mk hok
   clear hok
   refine wpIn_region_k (fun _ => trivial) rfl wideC HF fun K hK => ?_
   iterate 5 (refine OpsK.step rfl rfl rfl ?_; go_simp)
   refine HCK.out.mono ?_
   rintro e w2 ⟨rfl, hb2⟩
   rw [← HOK.out]
   dsimp only
   refine OpsK.step rfl rfl rfl ?_
   go_simp
   refine OpsK.nil (hK _ _ fun a' hf' => ?_)
   clear hK K HF
   have HF : Fr 30 [] [(0, .slice (some ad) l0.length c0), (4, .int .i64 (j : Nat)), (21, .bool (!ok))] a' := hf'.sub ⟨rfl, rfl, rfl, trivial⟩
   clear hf'
   have HB2 := Aside0.mk (below_then HBW.out HBW.out.size hb2)
   clear hb2 x0 x1 x2 x3 x4 x5
   cases ok with
   | false =>
    have hbb : boundOf l0 = .error ((j : Nat), 2) := by
     have h := HB.out
     rw [HFB.out, HNO.out HOK.out.symm] at h
     exact h
    have HBB := Aside0.mk hbb
    clear hbb
    refine wpIn_cond_true (HF.tmp rfl) (wpIn_seq ?_)
    refine wpIn_region_k (fun _ => trivial) rfl wideC HF fun K hK => ?_
    iterate 3 (refine OpsK.step rfl rfl rfl ?_; go_simp)
    refine OpsK.nil (hK _ _ fun a9 hf' => ?_)
    clear hK K HF
    have HF : Fr 30 [] [(2, .int .i64 (j : Nat)), (3, .int .i64 2)] a9 := hf'.sub ⟨rfl, rfl, trivial⟩
    clear hf'
    refine wpIn_ret ?_
    try simp only [Exit.then, Exit.inBlock, ↓reduceIte]
    exact HF.ret2 rfl rfl rfl ⟨by rw [HBB.out]; rfl, HB2.out⟩
   | true =>
    refine wpIn_cond_false (HF.tmp rfl) (wpIn_skip ?_)
    show Code.wpIn _ _ _ (Code.region 5 _ _) _ _ _
    refine wpIn_region_k (fun _ => trivial) rfl wideC HF fun K hK => ?_
    iterate 3 (refine OpsK.step rfl rfl rfl ?_; go_simp)
    refine OpsK.nil (hK _ _ fun a3 hf' => ?_)
    clear hK K HF
    rw [HWJ.out] at hf'
    have HF : Fr 30 [] [(0, .slice (some ad) l0.length c0), (4, .int .i64 ((j + 1 : Nat) : Int))] a3 := hf'.sub ⟨rfl, rfl, trivial⟩
    clear hf'
    rw [← HAA.out] at HF
    refine ⟨⟨j + 1, by omega, HF, HFB.out.trans (HYES.out HOK.out.symm), HB2.out⟩, ?_⟩
    rw [HF.tmp (k := 4) rfl]
    simp only [intOf]
    omega
  ·obtain rfl : j = l0.length := by omega
   have hnlt : ¬ ((l0.length : Nat) : Int) < ((l0.length : Nat) : Int) := by omega
   have hb2 := HB.out
   rw [HFB.out, List.drop_length] at hb2
   have hb3 : boundOf l0 = match Prot.levels (l0.map toC) with
    | none => .error (-1, 9)
    | some m => .ok m := hb2
   have HB3 := Aside0.mk hb3
   clear hb2 hb3
   refine wpIn_region_k (fun _ => trivial) rfl wideC HF fun K hK => ?_
   iterate 4 (refine OpsK.step rfl rfl rfl ?_; go_simp)
   refine OpsK.nil (hK _ _ fun a' hf' => ?_)
   clear hK K HF
   have HF : Fr 30 [] [(0, .slice A0 l0.length c0), (13, .bool false)] a' := hf'.sub ⟨rfl, rfl, trivial⟩
   clear hf'
   refine wpIn_cond_false (HF.tmp rfl) (wpIn_exit ?_)
   simp only [Exit.then, Exit.inBlock, ↓reduceIte]
   clear hnlt
   refine wpIn_seq ?_
   refine wpIn_region_k (fun _ => trivial) rfl wideC HF fun K hK => ?_
   iterate 2 (refine OpsK.step rfl rfl rfl ?_; go_simp)
   refine (HLC.out wr (Kd.C_below HR.out HBW.out) HLN.out).mono ?_
   rintro e w2 ⟨hb2, he⟩
   have HB2 := Aside0.mk (below_then HBW.out HBW.out.size hb2)
   clear hb2
   cases hlv : Prot.levels (l0.map toC) with
   | none =>
    rw [hlv] at he
    subst he
    have hbb := HB3.out
    rw [hlv] at hbb
    have HBB := Aside0.mk hbb
    clear hbb hlv
    dsimp only
    iterate 5 (refine OpsK.step rfl rfl rfl ?_; go_simp)
    refine OpsK.nil (hK _ _ fun a' hf' => ?_)
    clear hK K HF
    have HF : Fr 30 [] [(6, .bool false)] a' := hf'.sub ⟨rfl, trivial⟩
    clear hf'
    refine wpIn_seq (wpIn_seq ?_)
    refine wpIn_region_k (fun _ => trivial) rfl wideC HF fun K hK => ?_
    iterate 2 (refine OpsK.step rfl rfl rfl ?_; go_simp)
    refine OpsK.nil (hK _ _ fun a' hf' => ?_)
    clear hK K HF
    have HF : Fr 30 [] [(29, .bool true)] a' := hf'.sub ⟨rfl, trivial⟩
    clear hf'
    refine wpIn_cond_true (HF.tmp rfl) (wpIn_seq ?_)
    refine wpIn_region_k (fun _ => trivial) rfl wideC HF fun K hK => ?_
    iterate 2 (refine OpsK.step rfl rfl rfl ?_; go_simp)
    refine OpsK.nil (hK _ _ fun a9 hf' => ?_)
    clear hK K HF
    have HF : Fr 30 [] [(2, .int .i64 (-1)), (3, .int .i64 9)] a9 := hf'.sub ⟨rfl, rfl, trivial⟩
    clear hf'
    refine wpIn_ret ?_
    try simp only [Exit.then, Exit.inBlock, ↓reduceIte]
    exact HF.ret2 rfl rfl rfl ⟨by rw [HBB.out]; rfl, HB2.out⟩
   | some m =>
    rw [hlv] at he
    obtain ⟨r, rfl, _, _⟩ := he
    have hbb := HB3.out
    rw [hlv] at hbb
    have HBB := Aside0.mk hbb
    clear hbb hlv
    dsimp only
    iterate 5 (refine OpsK.step rfl rfl rfl ?_; go_simp)
    refine OpsK.nil (hK _ _ fun a' hf' => ?_)
    clear hK K HF
    have HF : Fr 30 [] [(6, .bool true)] a' := hf'.sub ⟨rfl, trivial⟩
    clear hf'
    refine wpIn_seq (wpIn_seq ?_)
    refine wpIn_region_k (fun _ => trivial) rfl wideC HF fun K hK => ?_
    iterate 2 (refine OpsK.step rfl rfl rfl ?_; go_simp)
    refine OpsK.nil (hK _ _ fun a' hf' => ?_)
    clear hK K HF
    have HF : Fr 30 [] [(29, .bool false)] a' := hf'.sub ⟨rfl, trivial⟩
    clear hf'
    refine wpIn_cond_false (HF.tmp rfl) (wpIn_skip ?_)
    refine wpIn_seq ?_
    refine wpIn_region_k (fun _ => trivial) rfl wideC HF fun K hK => ?_
    iterate 2 (refine OpsK.step rfl rfl rfl ?_; go_simp)
    refine OpsK.nil (hK _ _ fun a9 hf' => ?_)
    clear hK K HF
    have HF : Fr 30 [] [(2, .int .i64 (-1)), (3, .int .i64 0)] a9 := hf'.sub ⟨rfl, rfl, trivial⟩
    clear hf'
    refine wpIn_ret ?_
    try simp only [Exit.then, Exit.inBlock, ↓reduceIte]
    exact HF.ret2 rfl rfl rfl ⟨by rw [HBB.out]; rfl, HB2.out⟩
theorem besomref09_Check.calls (A0 : Option Addr) (c0 : Nat) (l0 : List S25) (r1 r2 : Int) (w : World) (hr0 : Kd.C k25 w A0 l0.length l0) (_hc0 : l0.length ≤ c0) (h : besomref09_Check.f l0 = some (r1, r2)) :
  Calls Tryz.prog 13 #[.slice A0 l0.length c0] w fun e w' => e = .returned (.tuple #[.int .i64 r1, .int .i64 r2]) ∧ Below w.heap.size w w' := by
 have := check_ref A0 c0 l0 w hr0
 unfold besomref09_Check.f at h
 rw [Option.some.inj h] at this
 exact this
theorem bound_err {l0 : List S25} {p : Int × Int} (h : boundOf l0 = .error p) : p.2 ≠ 0 := by
 rw [bound_of] at h
 split at h
 ·cases h; decide
 ·split at h
  ·cases h; show (2 : Int) ≠ 0; decide
  ·split at h
   ·cases h; decide
   ·cases h
theorem bound_ok {l0 : List S25} {m : List (ByteArray × Nat)} (h : boundOf l0 = .ok m) : l0.length ≤ 64 ∧ Prot.levels (l0.map toC) = some m := by
 rw [bound_of] at h
 split at h
 ·cases h
 ·rename_i hl
  split at h
  ·cases h
  ·split at h
   ·cases h
   ·rename_i m' hm
    cases h
    exact ⟨by omega, hm⟩
def besomref09_Level.f (l0 : List S25) (a1 : ByteArray) : Option (Int × Int) := some (match levelOf l0 a1 with | .error p => (0, p.2) | .ok n => ((n : Nat), 0))
set_option maxRecDepth 100000 in
set_option maxHeartbeats 4000000 in
theorem level_ref (A0 : Option Addr) (c0 : Nat) (l0 : List S25) (s : ByteArray) (w : World) (hr0 : Kd.C k25 w A0 l0.length l0) : Calls Tryz.prog 15 #[.slice A0 l0.length c0, .string s] w fun e w' => ∃ r1 r2, besomref09_Level.f l0 s = some (r1, r2) ∧ e = .returned (.tuple #[.int .i64 r1, .int .i64 r2]) ∧ Below w.heap.size w w' := by
 have HR := Aside0.mk hr0
 have HCK := Aside0.mk (check_ref A0 c0 l0 w hr0)
 have HLC := Aside0.mk (levels_calls A0 c0 l0)
 clear hr0
 refine callsK (args := [.slice A0 l0.length c0, .string s]) Tryz.func15 rfl Tryz.ntmps15 (by simp) fun a HF0 => ?_
 have HF : Fr 29 [] [(0, .slice A0 l0.length c0), (1, .string s)] a := HF0
 clear HF0
 refine wpIn_seq ?_
 refine wpIn_region_k (fun _ => trivial) rfl wideC HF fun K hK => ?_
 iterate 2 (refine OpsK.step rfl rfl rfl ?_; go_simp)
 refine OpsK.nil (hK _ _ fun a' hf' => ?_)
 clear hK K HF
 have HF : Fr 29 [] [(0, .slice A0 l0.length c0), (1, .string s)] a' := hf'.sub ⟨rfl, rfl, trivial⟩
 clear hf'
 refine wpIn_seq ?_
 refine wpIn_region_k (fun _ => trivial) rfl wideC HF fun K hK => ?_
 iterate 2 (refine OpsK.step rfl rfl rfl ?_; go_simp)
 refine HCK.out.mono ?_
 rintro e w2 ⟨rfl, hb2⟩
 dsimp only
 iterate 5 (refine OpsK.step rfl rfl rfl ?_; go_simp)
 refine OpsK.nil (hK _ _ fun a' hf' => ?_)
 clear hK K HF
 have HF : Fr 29 [] [(0, .slice A0 l0.length c0), (1, .string s), (7, .int .i64 ((errOf (boundOf l0)).getD (-1, 0)).2)] a' := hf'.sub ⟨rfl, rfl, rfl, trivial⟩
 clear hf'
 have HB2 := Aside0.mk hb2
 clear hb2
 refine wpIn_seq (wpIn_seq ?_)
 cases hbd : boundOf l0 with
 | error p =>
  rw [hbd] at HF
  have hp := bound_err hbd
  have hne : (p.2 != 0) = true := by simpa using hp
  have hf : besomref09_Level.f l0 s = some (0, p.2) := by unfold besomref09_Level.f levelOf; rw [hbd]
  have HFF := Aside0.mk hf
  have HNE := Aside0.mk hne
  clear hbd hp hf hne
  obtain ⟨e2, he2⟩ : ∃ e2, e2 = p.2 := ⟨_, rfl⟩
  have HF : Fr 29 [] [(0, .slice A0 l0.length c0), (1, .string s), (7, .int .i64 e2)] a' := by rw [he2]; exact HF
  rw [← he2] at HFF HNE
  clear he2
  refine wpIn_region_k (fun _ => trivial) rfl wideC HF fun K hK => ?_
  iterate 2 (refine OpsK.step rfl rfl rfl ?_; go_simp)
  try rw [HNE.out]
  refine OpsK.nil (hK _ _ fun a' hf' => ?_)
  clear hK K HF
  have HF : Fr 29 [] [(7, .int .i64 e2), (16, .bool true)] a' := hf'.sub ⟨rfl, rfl, trivial⟩
  clear hf'
  refine wpIn_cond_true (HF.tmp rfl) (wpIn_seq ?_)
  refine wpIn_region_k (fun _ => trivial) rfl wideC HF fun K hK => ?_
  iterate 3 (refine OpsK.step rfl rfl rfl ?_; go_simp)
  refine OpsK.nil (hK _ _ fun a9 hf' => ?_)
  clear hK K HF
  have HF : Fr 29 [] [(4, .int .i64 0), (5, .int .i64 e2)] a9 := hf'.sub ⟨rfl, rfl, trivial⟩
  clear hf'
  refine wpIn_ret ?_
  try simp only [Exit.then, Exit.inBlock, ↓reduceIte]
  exact HF.ret2 rfl rfl rfl ⟨0, e2, HFF.out, rfl, HB2.out⟩
 | ok m =>
  rw [hbd] at HF
  obtain ⟨hlen, hlv⟩ := bound_ok hbd
  have HF : Fr 29 [] [(0, .slice A0 l0.length c0), (1, .string s), (7, .int .i64 0)] a' := HF
  have HLV := Aside0.mk hlv
  have HLN := Aside0.mk hlen
  have HBD := Aside0.mk hbd
  clear hlv hlen hbd
  refine wpIn_region_k (fun _ => trivial) rfl wideC HF fun K hK => ?_
  iterate 2 (refine OpsK.step rfl rfl rfl ?_; go_simp)
  refine OpsK.nil (hK _ _ fun a' hf' => ?_)
  clear hK K HF
  have HF : Fr 29 [] [(0, .slice A0 l0.length c0), (1, .string s), (16, .bool false)] a' := hf'.sub ⟨rfl, rfl, rfl, trivial⟩
  clear hf'
  refine wpIn_cond_false (HF.tmp rfl) (wpIn_skip ?_)
  refine wpIn_seq (wpIn_seq ?_)
  obtain ⟨nb, hnb⟩ : ∃ nb, nb = nameB s := ⟨_, rfl⟩
  have HNB := Aside0.mk hnb
  clear hnb
  refine wpIn_region_k (fun _ => trivial) rfl wideC HF fun K hK => ?_
  iterate 2 (refine OpsK.step rfl rfl rfl ?_; go_simp)
  refine (name_any s w2).mono ?_
  rintro e w3 ⟨rfl, hb3⟩
  rw [← HNB.out]
  dsimp only
  refine OpsK.step rfl rfl rfl ?_
  go_simp
  refine OpsK.nil (hK _ _ fun a' hf' => ?_)
  clear hK K HF
  have HF : Fr 29 [] [(0, .slice A0 l0.length c0), (1, .string s), (20, .bool (!nb))] a' := hf'.sub ⟨rfl, rfl, rfl, trivial⟩
  clear hf'
  have HB3 := Aside0.mk (below_then HB2.out HB2.out.size hb3)
  clear hb3
  cases nb with
  | false =>
   have hf : besomref09_Level.f l0 s = some (0, 2) := by unfold besomref09_Level.f levelOf; rw [HBD.out]; simp [HNB.out.symm]
   have HFF := Aside0.mk hf
   clear hf
   refine wpIn_cond_true (HF.tmp rfl) (wpIn_seq ?_)
   refine wpIn_region_k (fun _ => trivial) rfl wideC HF fun K hK => ?_
   iterate 2 (refine OpsK.step rfl rfl rfl ?_; go_simp)
   refine OpsK.nil (hK _ _ fun a9 hf' => ?_)
   clear hK K HF
   have HF : Fr 29 [] [(4, .int .i64 0), (5, .int .i64 2)] a9 := hf'.sub ⟨rfl, rfl, trivial⟩
   clear hf'
   refine wpIn_ret ?_
   try simp only [Exit.then, Exit.inBlock, ↓reduceIte]
   exact HF.ret2 rfl rfl rfl ⟨0, 2, HFF.out, rfl, HB3.out⟩
  | true =>
   have hf : besomref09_Level.f l0 s = some (((Prot.get m s : Nat) : Int), 0) := by unfold besomref09_Level.f levelOf; rw [HBD.out]; simp [HNB.out.symm]
   have HFF := Aside0.mk hf
   clear hf
   refine wpIn_cond_false (HF.tmp rfl) (wpIn_skip ?_)
   refine wpIn_seq ?_
   refine wpIn_region_k (fun _ => trivial) rfl wideC HF fun K hK => ?_
   iterate 2 (refine OpsK.step rfl rfl rfl ?_; go_simp)
   refine (HLC.out w3 (Kd.C_below HR.out HB3.out) HLN.out).mono ?_
   rintro e w4 ⟨hb4, he⟩
   rw [HLV.out] at he
   obtain ⟨r, rfl, hm, _⟩ := he
   dsimp only
   iterate 5 (refine OpsK.step rfl rfl rfl ?_; go_simp)
   refine OpsK.nil (hK _ _ fun a' hf' => ?_)
   clear hK K HF
   have HF : Fr 29 [] [(1, .string s), (8, .map (some r))] a' := hf'.sub ⟨rfl, rfl, trivial⟩
   clear hf'
   have HB4 := Aside0.mk (below_then HB3.out HB3.out.size hb4)
   have hlk : (Instr.lookup 62 (.map (some r)) (.string s) false).run Tryz.prog w4 = .ok (.int .i64 (Prot.get m s : Nat)) w4 := by
    rw [← emb_get]
    exact run_lookup_at keyS Tryz.underlying62 Tryz.underlying9 hm zero3 _
   clear hb4 hm
   refine wpIn_seq ?_
   refine wpIn_region_k (fun _ => trivial) rfl wideC HF fun K hK => ?_
   iterate 5 (refine OpsK.step rfl rfl rfl ?_; go_simp)
   refine OpsK.nil (hK _ _ fun a9 hf' => ?_)
   clear hK K HF
   have HF : Fr 29 [] [(4, .int .i64 (Prot.get m s : Nat)), (5, .int .i64 0)] a9 := hf'.sub ⟨rfl, rfl, trivial⟩
   clear hf'
   refine wpIn_ret ?_
   try simp only [Exit.then, Exit.inBlock, ↓reduceIte]
   exact HF.ret2 rfl rfl rfl ⟨((Prot.get m s : Nat) : Int), 0, HFF.out, rfl, HB4.out⟩
theorem besomref09_Level.calls (A0 : Option Addr) (c0 : Nat) (l0 : List S25) (a1 : ByteArray) (r1 r2 : Int) (w : World) (hr0 : Kd.C k25 w A0 l0.length l0) (_hc0 : l0.length ≤ c0) (h : besomref09_Level.f l0 a1 = some (r1, r2)) :
  Calls Tryz.prog 15 #[.slice A0 l0.length c0, .string a1] w fun e w' => e = .returned (.tuple #[.int .i64 r1, .int .i64 r2]) ∧ Below w.heap.size w w' := by
 refine (level_ref A0 c0 l0 a1 w hr0).mono ?_
 rintro e w' ⟨x1, x2, hx, he, hb⟩
 rw [h] at hx
 cases hx
 exact ⟨he, hb⟩
theorem field80_0 (u v : Value) (w : World) : (Instr.field 80 (.agg #[u, v]) 0).run Tryz.prog w = .ok u w := by kernel_rfl
theorem field80_1 (u v : Value) (w : World) : (Instr.field 80 (.agg #[u, v]) 1).run Tryz.prog w = .ok v w := by kernel_rfl
end
section
abbrev Strict (l : List ByteArray) : Prop := l.Pairwise fun a b => ltB a b = true
theorem ltB_iff (a b : ByteArray) : ltB a b = true ↔ a.data.toList < b.data.toList := by
 unfold ltB
 rw [Lib.toList_data, Lib.toList_data, bytesLess_eq]
 simp
theorem data_inj {a b : ByteArray} (h : a.data.toList = b.data.toList) : a = b := by
 rw [← Lib.mk_data a, ← Lib.mk_data b, h]
theorem ltB_trans {a b c : ByteArray} (h : ltB a b = true) (k : ltB b c = true) : ltB a c = true := by
 rw [ltB_iff] at *
 exact List.lt_trans h k
theorem ltB_irrefl (a : ByteArray) : ltB a a = false := by
 cases h : ltB a a with
 | false => rfl
 | true => rw [ltB_iff] at h; exact absurd h (List.lt_irrefl _)
theorem Strict.nodup {l : List ByteArray} (h : Strict l) : l.Nodup := h.imp fun {a b} hab e => by
 subst e
 rw [ltB_irrefl] at hab
 cases hab
theorem strict_ext {l1 l2 : List ByteArray} (h1 : Strict l1) (h2 : Strict l2) (h : ∀ x, x ∈ l1 ↔ x ∈ l2) : l1 = l2 :=
 List.Perm.eq_of_pairwise (le := fun a b => ltB a b = true) (fun a b _ _ hab hba => by
  have := ltB_trans hab hba
  rw [ltB_irrefl] at this
  cases this) h1 h2 ((List.perm_ext_iff_of_nodup h1.nodup h2.nodup).2 h)
theorem mem_risen {l : List ByteArray} {x : ByteArray} : x ∈ risen l ↔ x ∈ l := by
 unfold risen
 simp only [List.mem_map, List.mem_mergeSort]
 constructor
 ·rintro ⟨b, ⟨s, hs, rfl⟩, rfl⟩
  rwa [show (⟨s.data.toList.toArray⟩ : ByteArray) = s from Lib.mk_data s]
 ·intro h
  exact ⟨_, ⟨x, h, rfl⟩, Lib.mk_data x⟩
theorem risen_strict {l : List ByteArray} (h : l.Nodup) : Strict (risen l) := by
 have hp : ((l.map fun s => s.data.toList).mergeSort (fun x y => decide (x ≤ y))).Pairwise (fun a b => decide (a ≤ b) = true) :=
  List.pairwise_mergeSort (fun a b c h1 h2 => by simp only [decide_eq_true_eq] at *; exact List.le_trans h1 h2) (fun a b => by simp only [Bool.or_eq_true, decide_eq_true_eq]; exact List.le_total a b) _
 have hn : ((l.map fun s => s.data.toList).mergeSort (fun x y => decide (x ≤ y))).Nodup :=
  (List.mergeSort_perm _ _).nodup_iff.2 (h.map _ fun a b hab e => hab (data_inj e))
 unfold Strict risen
 rw [List.pairwise_map]
 refine (hp.and hn).imp ?_
 rintro a b ⟨h1, h2⟩
 rw [ltB_iff]
 simp only [decide_eq_true_eq] at h1
 show a.toArray.toList < b.toArray.toList
 simp only []
 rcases Classical.em (a < b) with h | h
 ·exact h
 ·exact absurd (List.le_antisymm h1 (List.not_lt.1 h)) h2
theorem factsOf_strict (held : List ByteArray) : Strict (factsOf held) := risen_strict (setOf_keys held).1
theorem mem_factsOf {held : List ByteArray} {x : ByteArray} : x ∈ factsOf held ↔ x ∈ held := by
 unfold factsOf
 rw [mem_risen]
 exact (setOf_keys held).2 x
theorem factsOf_eq {held l : List ByteArray} (h : Strict l) (hm : ∀ x, x ∈ l ↔ x ∈ held) : factsOf held = l :=
 strict_ext (factsOf_strict held) h fun x => mem_factsOf.trans (hm x).symm
end
section
open Prot (heldOf derive proveL)
theorem model_of {l0 : List S25} {m : List (ByteArray × Nat)} (hb : boundOf l0 = .ok m) {ed : Int} {facts : List ByteArray} {o : List Nat} (h : madeOf m l0 ed facts = .ok o) : Prot.Model ed (l0.map toC) facts o :=
 (made_good (okBook hb) h).1.model (okBook hb).fit (made_good (okBook hb) h).2
def sEarly : ByteArray := { data := #[101, 97, 114, 108, 121] }
def sFirst : ByteArray := { data := #[102, 105, 114, 115, 116, 45, 102, 111, 117, 114] }
def sGone : ByteArray := { data := #[103, 117, 97, 114, 100, 45, 103, 111, 110, 101] }
def sOwn : ByteArray := { data := #[111, 119, 110, 45, 103, 117, 97, 114, 100] }
def sGuard : ByteArray := { data := #[103, 117, 97, 114, 100] }
def sFoul : ByteArray := { data := #[102, 111, 117, 108] }
def sA : ByteArray := { data := #[97] }
def sB : ByteArray := { data := #[98] }
def sC : ByteArray := { data := #[99] }
def sText : ByteArray := { data := #[103, 117, 97, 114, 100, 58, 32, 102, 111, 117, 108, 32, 105, 102, 32, 101, 97, 114, 108, 121, 44, 32, 103, 117, 97, 114, 100, 45, 103, 111, 110, 101, 32, 117, 110, 108, 101, 115, 115, 32, 111, 119, 110, 45, 103, 117, 97, 114, 100, 10] }
def book0 : List S25 := [⟨sEarly, 0, 1000, [sFirst], [], sEarly⟩, ⟨sGuard, 10, 1000, [sEarly, sGone], [sOwn], sFoul⟩]
def book1 : List S25 := [⟨sA, 0, 0, [], [sB], sC⟩, ⟨sB, 0, 0, [], [sC], sB⟩]
def facts0 : List ByteArray := [sFirst, sGone]
theorem bound0 : boundOf book0 = .ok [(sFoul, 1)] := by kernel_rfl
theorem made0 : madeOf [(sFoul, 1)] book0 10 facts0 = .ok [0, 1] := by kernel_rfl
theorem asked0 : askedOf book0 10 facts0 = .ok ([(sFoul, 1)], [0, 1]) := by kernel_rfl
theorem asked9 : askedOf book0 9 facts0 = .ok ([(sFoul, 1)], [0]) := by kernel_rfl
theorem holds0 : holdsOf book0 10 facts0 = .ok [sEarly, sFirst, sFoul, sGone] := by
 rw [holds_of bound0 made0, factsOf_eq (l := [sEarly, sFirst, sFoul, sGone]) ?_ ?_]
 ·have h1 : ltB sEarly sFirst = true := by kernel_rfl
  have h2 : ltB sFirst sFoul = true := by kernel_rfl
  have h3 : ltB sFoul sGone = true := by kernel_rfl
  simp [Strict, h1, h2, h3, ltB_trans h1 h2, ltB_trans (ltB_trans h1 h2) h3, ltB_trans h2 h3]
 ·intro x
  have : heldOf (book0.map toC) facts0 [0, 1] = [sFirst, sGone, sEarly, sFoul] := by kernel_rfl
  rw [this]
  simp only [List.mem_cons, List.not_mem_nil, or_false]
  constructor
  ·rintro (h | h | h | h) <;> simp [h]
  ·rintro (h | h | h | h) <;> simp [h]
theorem why0 : whyOf book0 10 facts0 sFoul = .ok [0, 1] := by
 unfold whyOf
 rw [asked0]
 have h1 : nameB sFoul = true := by kernel_rfl
 have h2 : has (setOf (heldOf (book0.map toC) facts0 [0, 1])) sFoul = true := by kernel_rfl
 have h3 : derive (book0.map toC) [0, 1] sFoul = [0, 1] := by
  rw [← Prot.whyR_derive (model_of bound0 made0) sFoul]
  kernel_rfl
 simp only [h1, h2, h3, if_true]
 rfl
theorem why9 : whyOf book0 9 facts0 sFoul = .error (-1, 7) := by
 unfold whyOf
 rw [asked9]
 have h1 : nameB sFoul = true := by kernel_rfl
 have h2 : has (setOf (heldOf (book0.map toC) facts0 [0])) sFoul = false := by kernel_rfl
 simp only [h1, h2, if_true]
 rfl
theorem proves0 : provesOf book0 10 facts0 [1, 0] sFoul = .ok (false, 0) := by kernel_rfl
theorem text0 : textOf book0 [1] = .ok sText := by kernel_rfl
theorem chk0 : boundOf book1 = .error (-1, 9) := by kernel_rfl
end
section
open Prot (heldOf roundL roundP addL addOne mkLevel mkLevels at_ firesB Good Fits)
attribute [local go_sem] slk sget sput uponK_value uponK_skip uponK_enter
theorem lit_C {α : Type} (d : Kd α) (W : World) (g : Nat) (T : TypeId) (cs : Array Value) (xs : List α) (hg : W.heap[g]? = some (.cells cs T (0, 0))) (hl : xs.length ≤ 9223372036854775807)
  (h : ∀ j p, xs[j]? = some p → ∃ c, c.length = d.sz ∧ d.K W p c ∧ ∀ i u, c[i]? = some u → cs[j * d.sz + i]? = some u) : d.C W (some ⟨g, 0, none⟩) xs.length xs := by
 refine ⟨rfl, hl, fun _ => ⟨_, rfl, fun j p hj => ?_⟩⟩
 obtain ⟨c, h1, h2, h3⟩ := h j p hj
 refine ⟨c, h1, h2, fun i u hu => ?_⟩
 have := h3 i u hu
 have e : (⟨g, 0, none⟩ : Addr).add (j * d.sz + i) = ⟨g, j * d.sz + i, none⟩ := by
  unfold Addr.add
  split
  ·rename_i h0; rw [h0]
  ·simp
 rw [e]
 unfold World.cell?
 simp only [hg]
 exact this
theorem str_C (W : World) (g : Nat) (xs : List ByteArray) (hg : W.heap[g]? = some (.cells (xs.map Value.string).toArray 9 (0, 0))) (hl : xs.length ≤ 9223372036854775807) : Kd.C Kd.string W (some ⟨g, 0, none⟩) xs.length xs :=
 lit_C Kd.string W g 9 _ xs hg hl fun j p hj => ⟨[.string p], rfl, rfl, fun i u hu => by
  obtain ⟨hi, rfl⟩ : i = 0 ∧ u = .string p := by
   cases i with
   | zero => simp at hu; exact ⟨rfl, hu.symm⟩
   | succ n => simp at hu
  subst hi
  show (xs.map Value.string).toArray[j * 1 + 0]? = _
  simp [hj]⟩
theorem int_C (W : World) (g : Nat) (xs : List Int) (hg : W.heap[g]? = some (.cells (xs.map (Value.int .i64)).toArray 3 (0, 0))) (hl : xs.length ≤ 9223372036854775807) : Kd.C (Kd.int .i64) W (some ⟨g, 0, none⟩) xs.length xs :=
 lit_C (Kd.int .i64) W g 3 _ xs hg hl fun j p hj => ⟨[.int .i64 p], rfl, rfl, fun i u hu => by
  obtain ⟨hi, rfl⟩ : i = 0 ∧ u = .int .i64 p := by
   cases i with
   | zero => simp at hu; exact ⟨rfl, hu.symm⟩
   | succ n => simp at hu
  subst hi
  show (xs.map (Value.int .i64)).toArray[j * 1 + 0]? = _
  simp [hj]⟩
def cl (x : S25) (v3 v4 : Value) : List Value := [.string x.f0, .int .i64 x.f1, .int .i64 x.f2, v3, v4, .string x.f5]
theorem two_C (W : World) (g : Nat) (x y : S25) (A3 A4 B3 B4 : Option Addr) (c3 c4 d3 d4 : Nat) (hg : W.heap[g]? = some (.cells (cl x (.slice A3 x.f3.length c3) (.slice A4 x.f4.length c4) ++ cl y (.slice B3 y.f3.length d3) (.slice B4 y.f4.length d4)).toArray 25 (0, 0)))
  (a3 : Kd.C Kd.string W A3 x.f3.length x.f3) (l3 : x.f3.length ≤ c3) (a4 : Kd.C Kd.string W A4 x.f4.length x.f4) (l4 : x.f4.length ≤ c4) (b3 : Kd.C Kd.string W B3 y.f3.length y.f3) (m3 : y.f3.length ≤ d3) (b4 : Kd.C Kd.string W B4 y.f4.length y.f4) (m4 : y.f4.length ≤ d4) :
  Kd.C k25 W (some ⟨g, 0, none⟩) [x, y].length [x, y] :=
 lit_C k25 W g 25 _ [x, y] hg (by simp) fun j p hj => by
  have hsz : k25.sz = 6 := rfl
  rw [hsz]
  match j, hj with
  | 0, hj =>
   obtain rfl : x = p := by simpa using hj
   refine ⟨_, rfl, k25_mk W x l3 a3 l4 a4, fun i u hu => ?_⟩
   match i, hu with
   | 0, hu => simp at hu; subst hu; rfl
   | 1, hu => simp at hu; subst hu; rfl
   | 2, hu => simp at hu; subst hu; rfl
   | 3, hu => simp at hu; subst hu; rfl
   | 4, hu => simp at hu; subst hu; rfl
   | 5, hu => simp at hu; subst hu; rfl
   | n + 6, hu => simp at hu
  | 1, hj =>
   obtain rfl : y = p := by simpa using hj
   refine ⟨_, rfl, k25_mk W y m3 b3 m4 b4, fun i u hu => ?_⟩
   match i, hu with
   | 0, hu => simp at hu; subst hu; rfl
   | 1, hu => simp at hu; subst hu; rfl
   | 2, hu => simp at hu; subst hu; rfl
   | 3, hu => simp at hu; subst hu; rfl
   | 4, hu => simp at hu; subst hu; rfl
   | 5, hu => simp at hu; subst hu; rfl
   | n + 6, hu => simp at hu
  | n + 2, hj => simp at hj
theorem nil_C (W : World) : Kd.C Kd.string W none ([] : List ByteArray).length [] := ⟨rfl, by decide, fun h => absurd h (by decide)⟩
theorem buildE (s t : ByteArray) (n : Int) (A : Option Addr) (l c : Nat) (w : World) : (Instr.build 25 #[(0, .string s), (2, .int .i64 n), (3, .slice A l c), (5, .string t)]).run Tryz.prog w = .ok (.agg #[.string s, .int .i64 0, .int .i64 n, .slice A l c, .slice none 0 0, .string t]) w := by kernel_rfl
theorem buildG (s t : ByteArray) (m n : Int) (A B : Option Addr) (l c k d : Nat) (w : World) : (Instr.build 25 #[(0, .string s), (1, .int .i64 m), (2, .int .i64 n), (3, .slice A l c), (4, .slice B k d), (5, .string t)]).run Tryz.prog w = .ok (.agg #[.string s, .int .i64 m, .int .i64 n, .slice A l c, .slice B k d, .string t]) w := by kernel_rfl
theorem buildU (s t : ByteArray) (A : Option Addr) (l c : Nat) (w : World) : (Instr.build 25 #[(0, .string s), (4, .slice A l c), (5, .string t)]).run Tryz.prog w = .ok (.agg #[.string s, .int .i64 0, .int .i64 0, .slice none 0 0, .slice A l c, .string t]) w := by kernel_rfl
attribute [local go_sem] buildE buildG buildU
set_option maxRecDepth 100000 in
set_option maxHeartbeats 4000000 in
theorem sample_calls (w : World) : Calls Tryz.prog 36 #[] w fun e w' => ∃ A c, e = .returned (.slice A book0.length c) ∧ Kd.C k25 w' A book0.length book0 ∧ book0.length ≤ c ∧ Below w.heap.size w w' := by
 have hu25 := Tryz.underlying25
 refine callsK (args := []) Tryz.func36 rfl Tryz.ntmps36 (by simp) fun a HF0 => ?_
 have HF : Fr 7 [] [] a := HF0
 clear HF0
 refine wpIn_seq ?_
 refine wpIn_region_k (fun _ => trivial) rfl wideC HF fun K hK => ?_
 refine OpsK.step rfl rfl rfl ?_
 go_simp
 refine OpsK.nil (hK _ _ fun a' hf' => ?_)
 clear hK K HF
 have HF : Fr 7 [] [(0, .slice none 0 0)] a' := hf'.sub ⟨rfl, trivial⟩
 clear hf'
 refine wpIn_seq ?_
 refine wpIn_region_k (fun _ => trivial) rfl wideC HF fun K hK => ?_
 iterate 7 (refine OpsK.step rfl rfl rfl ?_; go_simp)
 refine OpsK.nil (hK _ _ fun a' hf' => ?_)
 clear hK K HF
 have HF : Fr 7 [] [(0, .slice (some ⟨w.heap.size + 1 + 1 + 1, 0, none⟩) 2 2)] a' := hf'.sub ⟨rfl, trivial⟩
 clear hf'
 have hL := (((((Laid.nil w).snoc (.cells ([sFirst].map Value.string).toArray 9)).snoc (.cells ([sEarly, sGone].map Value.string).toArray 9)).snoc (.cells ([sOwn].map Value.string).toArray 9)).snoc (.cells (cl ⟨sEarly, 0, 1000, [sFirst], [], sEarly⟩ (.slice (some ⟨w.heap.size, 0, none⟩) 1 1) (.slice none 0 0) ++ cl ⟨sGuard, 10, 1000, [sEarly, sGone], [sOwn], sFoul⟩ (.slice (some ⟨w.heap.size + 1, 0, none⟩) 2 2) (.slice (some ⟨w.heap.size + 1 + 1, 0, none⟩) 1 1)).toArray 25))
 refine wpIn_ret (HF.ret1 rfl rfl ?_)
 show ∃ A c, Ending.returned (Value.slice (some ⟨w.heap.size + 1 + 1 + 1, 0, none⟩) 2 2) = Ending.returned (Value.slice A 2 c) ∧ Kd.C k25 ((((w.alloc (.cells ([sFirst].map Value.string).toArray 9)).alloc (.cells ([sEarly, sGone].map Value.string).toArray 9)).alloc (.cells ([sOwn].map Value.string).toArray 9)).alloc (.cells (cl ⟨sEarly, 0, 1000, [sFirst], [], sEarly⟩ (.slice (some ⟨w.heap.size, 0, none⟩) 1 1) (.slice none 0 0) ++ cl ⟨sGuard, 10, 1000, [sEarly, sGone], [sOwn], sFoul⟩ (.slice (some ⟨w.heap.size + 1, 0, none⟩) 2 2) (.slice (some ⟨w.heap.size + 1 + 1, 0, none⟩) 1 1)).toArray 25)) A 2 book0 ∧ 2 ≤ c ∧ Below w.heap.size w ((((w.alloc (.cells ([sFirst].map Value.string).toArray 9)).alloc (.cells ([sEarly, sGone].map Value.string).toArray 9)).alloc (.cells ([sOwn].map Value.string).toArray 9)).alloc (.cells (cl ⟨sEarly, 0, 1000, [sFirst], [], sEarly⟩ (.slice (some ⟨w.heap.size, 0, none⟩) 1 1) (.slice none 0 0) ++ cl ⟨sGuard, 10, 1000, [sEarly, sGone], [sOwn], sFoul⟩ (.slice (some ⟨w.heap.size + 1, 0, none⟩) 2 2) (.slice (some ⟨w.heap.size + 1 + 1, 0, none⟩) 1 1)).toArray 25))
 generalize ((((w.alloc (.cells ([sFirst].map Value.string).toArray 9)).alloc (.cells ([sEarly, sGone].map Value.string).toArray 9)).alloc (.cells ([sOwn].map Value.string).toArray 9)).alloc (.cells (cl ⟨sEarly, 0, 1000, [sFirst], [], sEarly⟩ (.slice (some ⟨w.heap.size, 0, none⟩) 1 1) (.slice none 0 0) ++ cl ⟨sGuard, 10, 1000, [sEarly, sGone], [sOwn], sFoul⟩ (.slice (some ⟨w.heap.size + 1, 0, none⟩) 2 2) (.slice (some ⟨w.heap.size + 1 + 1, 0, none⟩) 1 1)).toArray 25)) = W at hL ⊢
 have g0 : W.heap[w.heap.size]? = _ := hL.heap (i := 0) rfl
 have g1 : W.heap[w.heap.size + 1]? = _ := hL.heap (i := 1) rfl
 have g2 : W.heap[w.heap.size + 1 + 1]? = _ := hL.heap (i := 2) rfl
 have g3 : W.heap[w.heap.size + 1 + 1 + 1]? = _ := hL.heap (i := 3) rfl
 exact ⟨_, _, rfl, two_C W _ _ _ _ _ _ _ _ _ _ _ g3 (str_C W _ [sFirst] g0 (by decide)) (by decide) (nil_C W) (Nat.le_refl _) (str_C W _ [sEarly, sGone] g1 (by decide)) (by decide) (str_C W _ [sOwn] g2 (by decide)) (by decide), by decide, hL.below⟩
end
end Go.Proofs.YtlhkeohcickiaaaGreatDoor.E

