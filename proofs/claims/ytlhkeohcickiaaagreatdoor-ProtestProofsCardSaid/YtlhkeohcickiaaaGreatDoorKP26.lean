/- Part 26 of 36 of the proof of ProtestProofs: lemmas, without conditions. -/
import Derived.Test.YtlhkeohcickiaaaGreatDoorKP25
import Derived.Sort.LoopGhostIn
set_option linter.all false
namespace Go.Proofs.YtlhkeohcickiaaaGreatDoor.E
open Go.RowKit Go.Proofs.YtlhkeohcickiaaaGreatDoor.H Go.Proofs.YtlhkeohcickiaaaGreatDoorW.PrintWords Go.Proofs.YtlhkeohcickiaaaGreatDoorW.PrintLast Go.Proofs.YtlhkeohcickiaaaGreatDoorW.PrintMore
section
open Prot (heldOf roundL roundP addL addOne mkLevel mkLevels at_ firesB Good Fits)
attribute [local go_sem] slk sget sput uponK_value uponK_skip uponK_enter
open Prot (passL levelsF foldIf foldUn wants put)
attribute [local go_sem] max2_int max_two
def LevPost (w : World) (l : List S25) (e : Ending) (W : World) : Prop := Below w.heap.size w W ∧ match Prot.levels (l.map toC) with
 | none => e = .returned (.tuple #[.map none, .bool false])
 | some m => ∃ r, e = .returned (.tuple #[.map (some r), .bool true]) ∧ H.MapAt H.encS W r (emb m) ∧ w.heap.size ≤ r
theorem foldIf_take (m : List (ByteArray × Nat)) (l : List ByteArray) {k : Nat} (h : k < l.length) (n : Nat) : foldIf m (l.take (k + 1)) n = max (foldIf m (l.take k) n) (Prot.get m l[k]) := by
 rw [← List.take_append_getElem h, foldIf, List.foldl_append]; rfl
theorem foldUn_take (m : List (ByteArray × Nat)) (l : List ByteArray) {k : Nat} (h : k < l.length) (n : Nat) : foldUn m (l.take (k + 1)) n = max (foldUn m (l.take k) n) (Prot.get m l[k] + 1) := by
 rw [← List.take_append_getElem h, foldUn, List.foldl_append]; rfl
theorem foldUn_bound (m : List (ByteArray × Nat)) (l : List ByteArray) (n b : Nat) (hn : n ≤ b + 1) (h : ∀ z, Prot.get m z ≤ b) : foldUn m l n ≤ b + 1 := (Prot.foldUn_le m l n (b + 1)).2 ⟨hn, fun f _ => Nat.succ_le_succ (h f)⟩
theorem foldIf_bound (m : List (ByteArray × Nat)) (l : List ByteArray) (n b : Nat) (hn : n ≤ b) (h : ∀ z, Prot.get m z ≤ b) : foldIf m l n ≤ b := (Prot.foldIf_le m l n b).2 ⟨hn, fun f _ => h f⟩
set_option maxRecDepth 100000 in
set_option maxHeartbeats 4000000 in
theorem levels_calls (A : Option Addr) (c : Nat) (l : List S25) (w : World) (hr : Kd.C k25 w A l.length l) (hl : l.length ≤ 64) : Calls Tryz.prog 40 #[.slice A l.length c] w (LevPost w l) := by
 have HR := Aside0.mk hr
 have hmm := @run_makeMap Tryz.prog
 have hu25 := Tryz.underlying25
 clear hr
 refine callsK (args := [.slice A l.length c]) Tryz.func40 rfl Tryz.ntmps40 (by simp) fun a HF0 => ?_
 have HF : Fr 75 [] [(0, .slice A l.length c)] a := HF0
 clear HF0
 refine wpIn_seq ?_
 refine wpIn_region_k (fun _ => trivial) rfl wideC HF fun K hK => ?_
 iterate 2 (refine OpsK.step rfl rfl rfl ?_; go_simp)
 refine OpsK.nil (hK _ _ fun a' hf' => ?_)
 clear hK K HF
 have HF : Fr 75 [] [(0, .slice A l.length c)] a' := hf'.sub ⟨rfl, trivial⟩
 clear hf'
 refine wpIn_seq ?_
 refine wpIn_region_k (fun _ => trivial) rfl wideC HF fun K hK => ?_
 iterate 2 (refine OpsK.step rfl rfl rfl ?_; go_simp)
 refine OpsK.nil (hK _ _ fun a' hf' => ?_)
 clear hK K HF
 have HF : Fr 75 [] [(0, .slice A l.length c), (4, .map (some w.heap.size))] a' := hf'.sub ⟨rfl, rfl, trivial⟩
 clear hf'
 have hm0 : H.MapAt H.encS (w.alloc (.map #[] 0)) w.heap.size (emb []) := H.MapAt.new w
 have hb0 : Below w.heap.size w (w.alloc (.map #[] 0)) := (Below.refl _ w).alloc (Nat.le_refl _) _
 obtain ⟨r, hrr⟩ : ∃ r, r = w.heap.size := ⟨_, rfl⟩
 have hrw : w.heap.size ≤ r := Nat.le_of_eq hrr.symm
 rw [← hrr] at HF hm0
 generalize w.alloc (.map #[] 0) = w1 at hm0 hb0 ⊢
 clear hrr hmm
 refine wpIn_seq ?_
 refine wpIn_seq ?_
 refine wpIn_region_k (fun _ => trivial) rfl wideC HF fun K hK => ?_
 refine OpsK.step rfl rfl rfl ?_
 go_simp
 refine OpsK.nil (hK _ _ fun a' hf' => ?_)
 clear hK K HF
 have HF : Fr 75 [] [(0, .slice A l.length c), (4, .map (some r)), (5, .bool true)] a' := hf'.sub ⟨rfl, rfl, rfl, trivial⟩
 clear hf'
 refine wpIn_block (wpIn_loop_ghost (fun kq a wr => ∃ (b : Bool) (m : List (ByteArray × Nat)), Fr 75 [] [(0, .slice A l.length c), (4, .map (some r)), (5, .bool b)] a ∧ H.MapAt H.encS wr r (emb m) ∧ Below w.heap.size w wr ∧ (∀ z, Prot.get m z ≤ l.length) ∧ (if b = true then levelsF (l.map toC) kq m = some (Prot.levels (l.map toC)) else Prot.levels (l.map toC) = some m)) ((l.map toC).length * (l.map toC).length + 2) ⟨true, [], HF, hm0, hb0, fun _ => Nat.zero_le _, by rw [if_pos rfl]; exact Prot.levels_eq _⟩ ?_)
 clear HF hm0 hb0
 rintro kq a wr ⟨b, m, HF, hm, hbw, hvb, hlv⟩
 have HM := Aside0.mk hm
 have HBW := Aside0.mk hbw
 have HVB := Aside0.mk hvb
 have HLV := Aside0.mk hlv
 clear hm hbw hvb hlv
 refine wpIn_seq (wpIn_seq ?_)
 refine wpIn_region_k (fun _ => trivial) rfl wideC HF fun K hK => ?_
 refine OpsK.step rfl rfl rfl ?_
 go_simp
 refine OpsK.nil (hK _ _ fun a' hf' => ?_)
 clear hK K HF
 have HF : Fr 75 [] [(0, .slice A l.length c), (4, .map (some r)), (12, .bool b)] a' := hf'.sub ⟨rfl, rfl, rfl, trivial⟩
 clear hf'
 cases b with
 | false =>
  refine wpIn_cond_false (HF.tmp rfl) (wpIn_exit ?_)
  simp only [Exit.then, Exit.inBlock, ↓reduceIte]
  have hlv : Prot.levels (l.map toC) = some m := by have := HLV.out; simpa using this
  refine wpIn_seq ?_
  refine wpIn_region_k (fun _ => trivial) rfl wideC HF fun K hK => ?_
  iterate 3 (refine OpsK.step rfl rfl rfl ?_; go_simp)
  refine OpsK.nil (hK _ _ fun a9 hf' => ?_)
  clear hK K HF
  have HF : Fr 75 [] [(2, .map (some r)), (3, .bool true)] a9 := hf'.sub ⟨rfl, rfl, trivial⟩
  clear hf'
  refine wpIn_ret ?_
  exact HF.ret2 rfl rfl rfl ⟨HBW.out, by rw [hlv]; exact ⟨r, rfl, HM.out, hrw⟩⟩
 | true =>
  refine wpIn_cond_true (HF.tmp rfl) (wpIn_skip ?_)
  cases kq with
  | zero => have := HLV.out; simp [levelsF] at this
  | succ k1 =>
  obtain ⟨RES, hres⟩ : ∃ RES, RES = passL l.length (l.map toC) m false := ⟨_, rfl⟩
  have HRES := Aside0.mk hres
  clear hres
  refine wpIn_block (wpIn_seq ?_)
  refine wpIn_region_k (fun _ => trivial) rfl wideC HF fun K hK => ?_
  refine OpsK.step rfl rfl rfl ?_
  go_simp
  refine OpsK.nil (hK _ _ fun a' hf' => ?_)
  clear hK K HF
  have HF : Fr 75 [] [(0, .slice A l.length c), (4, .map (some r)), (5, .bool false)] a' := hf'.sub ⟨rfl, rfl, rfl, trivial⟩
  clear hf'
  refine wpIn_seq ?_
  refine wpIn_region_k (fun _ => trivial) rfl wideC HF fun K hK => ?_
  refine OpsK.step rfl rfl rfl ?_
  go_simp
  refine OpsK.nil (hK _ _ fun a' hf' => ?_)
  clear hK K HF
  have HF : Fr 75 [] [(0, .slice A l.length c), (4, .map (some r)), (5, .bool false), (6, .int .i64 0)] a' := hf'.sub ⟨rfl, rfl, rfl, rfl, trivial⟩
  clear hf'
  refine wpIn_block (wpIn_loop (fun a wr => ∃ (more : Bool) (j : Nat) (m' : List (ByteArray × Nat)), j ≤ l.length ∧ Fr 75 [] [(0, .slice A l.length c), (4, .map (some r)), (5, .bool more), (6, .int .i64 (j : Nat))] a ∧ H.MapAt H.encS wr r (emb m') ∧ Below w.heap.size w wr ∧ (∀ z, Prot.get m' z ≤ l.length) ∧ RES = passL l.length ((l.map toC).drop j) m' more)
   (fun a _ => l.length - (intOf (a.eval (.tmp 6))).toNat) ⟨false, 0, m, Nat.zero_le _, HF, HM.out, HBW.out, HVB.out, HRES.out⟩ ?_)
  clear HF HM HBW HVB
  rintro a wr ⟨more, j, m', hj, HF, hm, hbw, hvb, hp⟩
  have hmu : l.length - (intOf (a.eval (.tmp 6))).toNat = l.length - j := by rw [HF.tmp (k := 6) rfl]; simp [intOf]
  rw [hmu]
  clear hmu
  have HM := Aside0.mk hm
  have HBW := Aside0.mk hbw
  have HVB := Aside0.mk hvb
  have HP := Aside0.mk hp
  clear hm hbw hvb hp
  refine wpIn_seq (wpIn_seq ?_)
  by_cases hjl : j < l.length
  ·have hlt : ((j : Nat) : Int) < ((l.length : Nat) : Int) := by omega
   have hr0r := Kd.C_below HR.out HBW.out
   obtain ⟨ad, A3, c3, A4, c4, hA0, x0, x1, x2, x3, x4, x5, l3, g3, l4, g4⟩ := at_T25 hr0r (j : Int) (by omega) (by omega)
   simp only [Int.toNat_natCast] at x0 x1 x2 x3 x4 x5
   have hpc := HP.out
   rw [pass_cons _ _ _ hjl] at hpc
   obtain ⟨x, hx⟩ : ∃ x, x = rd_T25 l (j : Int) := ⟨_, rfl⟩
   rw [← hx] at x0 x1 x2 x3 x4 x5 l3 g3 l4 g4 hpc
   have hlen3 := g3.2.1
   have hlen4 := g4.2.1
   have HPC := Aside0.mk hpc
   have HG3 := Aside0.mk g3
   have HG4 := Aside0.mk g4
   have HL3 := Aside0.mk l3
   have HL4 := Aside0.mk l4
   have HWJ := Aside0.mk (wrapJ (j := j) (by omega))
   cases A with
   | none => cases hA0
   | some ad0 =>
   cases hA0
   clear hpc g3 g4 l3 l4 hx hr0r HP
   refine wpIn_region_k (fun _ => trivial) rfl wideC HF fun K hK => ?_
   iterate 4 (refine OpsK.step rfl rfl rfl ?_; go_simp)
   refine OpsK.nil (hK _ _ fun a' hf' => ?_)
   clear hK K HF
   have HF : Fr 75 [] [(0, .slice (some ad) l.length c), (4, .map (some r)), (5, .bool more), (6, .int .i64 (j : Nat)), (16, .bool true)] a' := hf'.sub ⟨rfl, rfl, rfl, rfl, rfl, trivial⟩
   clear hf'
   refine wpIn_cond_true (HF.tmp rfl) (wpIn_skip ?_)
   show Code.wpIn _ _ _ (Code.seq _ _) _ _ _
   refine wpIn_seq (wpIn_block (wpIn_seq ?_))
   refine wpIn_region_k (fun _ => trivial) rfl wideC HF fun K hK => ?_
   iterate 6 (refine OpsK.step rfl rfl rfl ?_; go_simp)
   refine OpsK.nil (hK _ _ fun a' hf' => ?_)
   clear hK K HF
   have HF : Fr 75 [] [(0, .slice (some ad) l.length c), (4, .map (some r)), (5, .bool more), (6, .int .i64 (j : Nat)), (7, .pointer (some ⟨wr.heap.size, 0, none⟩))] a' := hf'.sub ⟨rfl, rfl, rfl, rfl, rfl, trivial⟩
   clear hf'
   have hcb : (wr.alloc (.cells #[.string x.f0, .int .i64 x.f1, .int .i64 x.f2, .slice A3 x.f3.length c3, .slice A4 x.f4.length c4, .string x.f5] 25)).heap[wr.heap.size]? = some (.cells #[.string x.f0, .int .i64 x.f1, .int .i64 x.f2, .slice A3 x.f3.length c3, .slice A4 x.f4.length c4, .string x.f5] 25 (0, 0)) := World.alloc_heap_new wr _
   have hw1 : Below wr.heap.size wr (wr.alloc (.cells #[.string x.f0, .int .i64 x.f1, .int .i64 x.f2, .slice A3 x.f3.length c3, .slice A4 x.f4.length c4, .string x.f5] 25)) := (Below.refl _ wr).alloc (Nat.le_refl _) _
   generalize hcl : wr.heap.size = cb at hcb HF
   generalize wr.alloc (.cells #[.string x.f0, .int .i64 x.f1, .int .i64 x.f2, .slice A3 x.f3.length c3, .slice A4 x.f4.length c4, .string x.f5] 25) = w1 at hcb hw1 ⊢
   have k3 : w1.cell? ⟨cb, 3, none⟩ = some (.slice A3 x.f3.length c3) := by unfold World.cell?; rw [hcb]; rfl
   have k4 : w1.cell? ⟨cb, 4, none⟩ = some (.slice A4 x.f4.length c4) := by unfold World.cell?; rw [hcb]; rfl
   have k5 : w1.cell? ⟨cb, 5, none⟩ = some (.string x.f5) := by unfold World.cell?; rw [hcb]; rfl
   have HM2 : Aside0 (H.MapAt H.encS w1 r (emb m')) := ⟨HM.out.below hw1 HM.out.lt⟩
   have HB2 : Aside0 (Below w.heap.size w w1) := ⟨below_then HBW.out HBW.out.size hw1⟩
   have HG32 := Aside0.mk (Kd.C_below HG3.out hw1)
   have HG42 := Aside0.mk (Kd.C_below HG4.out hw1)
   have hlk : ∀ s, (Instr.lookup 62 (.map (some r)) (.string s) false).run Tryz.prog w1 = .ok (.int .i64 (Prot.get m' s : Nat)) w1 := fun s => by
    rw [← emb_get]
    exact run_lookup_at keyS Tryz.underlying62 Tryz.underlying9 HM2.out zero3 _
   have HLK := Aside0.mk hlk
   clear hcb hw1 hcl x0 x1 x2 x3 x4 x5 hlk
   obtain ⟨n0, hn0⟩ : ∃ n0, n0 = Prot.get m' x.f5 := ⟨_, rfl⟩
   have hlk5 := HLK.out x.f5
   rw [← hn0] at hlk5
   have HN0 := Aside0.mk hn0
   have hn0b : n0 ≤ l.length := by rw [hn0]; exact HVB.out _
   clear hn0
   refine wpIn_seq ?_
   refine wpIn_region_k (fun _ => trivial) rfl wideC HF fun K hK => ?_
   iterate 5 (refine OpsK.step rfl rfl rfl ?_; go_simp)
   refine OpsK.nil (hK _ _ fun a' hf' => ?_)
   clear hK K HF
   have HF : Fr 75 [] [(0, .slice (some ad) l.length c), (4, .map (some r)), (5, .bool more), (6, .int .i64 (j : Nat)), (7, .pointer (some ⟨cb, 0, none⟩)), (8, .int .i64 (n0 : Nat))] a' := hf'.sub ⟨rfl, rfl, rfl, rfl, rfl, rfl, trivial⟩
   clear hf'
   refine wpIn_seq (wpIn_seq ?_)
   refine wpIn_region_k (fun _ => trivial) rfl wideC HF fun K hK => ?_
   refine OpsK.step rfl rfl rfl ?_
   go_simp
   refine OpsK.nil (hK _ _ fun a' hf' => ?_)
   clear hK K HF
   have HF : Fr 75 [] [(0, .slice (some ad) l.length c), (4, .map (some r)), (5, .bool more), (6, .int .i64 (j : Nat)), (7, .pointer (some ⟨cb, 0, none⟩)), (8, .int .i64 (n0 : Nat)), (9, .int .i64 0)] a' := hf'.sub ⟨rfl, rfl, rfl, rfl, rfl, rfl, rfl, trivial⟩
   clear hf'
   refine wpIn_block (wpIn_loop (fun a wr2 => ∃ n : Nat, n ≤ x.f3.length ∧ Fr 75 [] [(0, .slice (some ad) l.length c), (4, .map (some r)), (5, .bool more), (6, .int .i64 (j : Nat)), (7, .pointer (some ⟨cb, 0, none⟩)), (8, .int .i64 ((foldIf m' (x.f3.take n) n0 : Nat) : Int)), (9, .int .i64 (n : Nat))] a ∧ w1 = wr2)
    (fun a _ => x.f3.length - (intOf (a.eval (.tmp 9))).toNat) ⟨0, Nat.zero_le _, HF, rfl⟩ ?_)
   clear HF
   rintro a wr2 ⟨n, hn, HF, rfl⟩
   have hmu : x.f3.length - (intOf (a.eval (.tmp 9))).toNat = x.f3.length - n := by rw [HF.tmp (k := 9) rfl]; simp [intOf]
   rw [hmu]
   clear hmu
   refine wpIn_seq (wpIn_seq ?_)
   by_cases hnl : n < x.f3.length
   ·have hltn : ((n : Nat) : Int) < ((x.f3.length : Nat) : Int) := by omega
    obtain ⟨ad3, hA3, hc3⟩ := Kd.at_string HG32.out (n : Int) (by omega) (by omega)
    simp only [Int.toNat_natCast] at hc3
    rw [hA3] at k3
    obtain ⟨s, hs⟩ : ∃ s, s = rdOf ByteArray.empty x.f3 (n : Int) := ⟨_, rfl⟩
    rw [← hs] at hc3
    have hsn : s = x.f3[n] := by rw [hs]; simp [rdOf, List.getD_eq_getElem?_getD, List.getElem?_eq_getElem hnl]
    have hlks := HLK.out s
    obtain ⟨g, hg⟩ : ∃ g, g = Prot.get m' s := ⟨_, rfl⟩
    rw [← hg] at hlks
    have hgb : g ≤ l.length := by rw [hg]; exact HVB.out _
    have htk : foldIf m' (x.f3.take (n + 1)) n0 = max (foldIf m' (x.f3.take n) n0) (g) := by rw [foldIf_take _ _ hnl, ← hsn, hg]
    obtain ⟨q, hq⟩ : ∃ q, q = foldIf m' (x.f3.take n) n0 := ⟨_, rfl⟩
    rw [← hq] at HF htk
    have HTK := Aside0.mk htk
    have HWN := Aside0.mk (wrapJ (j := n) (by omega))
    clear hs hsn hg htk hq
    refine wpIn_region_k (fun _ => trivial) rfl wideC HF fun K hK => ?_
    iterate 5 (refine OpsK.step rfl rfl rfl ?_; go_simp)
    refine OpsK.nil (hK _ _ fun a' hf' => ?_)
    clear hK K HF
    have HF : Fr 75 [] [(0, .slice (some ad) l.length c), (4, .map (some r)), (5, .bool more), (6, .int .i64 (j : Nat)), (7, .pointer (some ⟨cb, 0, none⟩)), (8, .int .i64 (q : Nat)), (9, .int .i64 (n : Nat)), (31, .bool true)] a' := hf'.sub ⟨rfl, rfl, rfl, rfl, rfl, rfl, rfl, rfl, trivial⟩
    clear hf'
    refine wpIn_cond_true (HF.tmp rfl) (wpIn_skip ?_)
    show Code.wpIn _ _ _ (Code.seq _ _) _ _ _
    refine wpIn_seq (wpIn_block ?_)
    refine wpIn_region_k (fun _ => trivial) rfl wideC HF fun K hK => ?_
    iterate 9 (refine OpsK.step rfl rfl rfl ?_; go_simp)
    rw [if_max]
    refine OpsK.step rfl rfl rfl ?_
    go_simp
    refine OpsK.nil (hK _ _ fun a2 hf' => ?_)
    clear hK K HF
    have HF : Fr 75 [] [(0, .slice (some ad) l.length c), (4, .map (some r)), (5, .bool more), (6, .int .i64 (j : Nat)), (7, .pointer (some ⟨cb, 0, none⟩)), (8, .int .i64 ((max q (g) : Nat) : Int)), (9, .int .i64 (n : Nat))] a2 := hf'.sub ⟨rfl, rfl, rfl, rfl, rfl, rfl, rfl, trivial⟩
    clear hf'
    rw [← HTK.out] at HF
    show Code.wpIn _ _ _ (Code.region 12 _ _) _ _ _
    refine wpIn_region_k (fun _ => trivial) rfl wideC HF fun K hK => ?_
    iterate 3 (refine OpsK.step rfl rfl rfl ?_; go_simp)
    refine OpsK.nil (hK _ _ fun a3 hf' => ?_)
    clear hK K HF
    rw [HWN.out] at hf'
    have HF : Fr 75 [] [(0, .slice (some ad) l.length c), (4, .map (some r)), (5, .bool more), (6, .int .i64 (j : Nat)), (7, .pointer (some ⟨cb, 0, none⟩)), (8, .int .i64 ((foldIf m' (x.f3.take (n + 1)) n0 : Nat) : Int)), (9, .int .i64 ((n + 1 : Nat) : Int))] a3 := hf'.sub ⟨rfl, rfl, rfl, rfl, rfl, rfl, rfl, trivial⟩
    clear hf'
    refine ⟨⟨n + 1, by omega, HF, rfl⟩, ?_⟩
    rw [HF.tmp (k := 9) rfl]
    simp only [intOf]
    omega
   ·obtain rfl : n = x.f3.length := by omega
    have hnlt : ¬ ((x.f3.length : Nat) : Int) < ((x.f3.length : Nat) : Int) := by omega
    rw [List.take_length] at HF
    obtain ⟨q3, hq3⟩ : ∃ q, q = foldIf m' x.f3 n0 := ⟨_, rfl⟩
    rw [← hq3] at HF
    have HEq3 := Aside0.mk hq3
    clear hq3
    refine wpIn_region_k (fun _ => trivial) rfl wideC HF fun K hK => ?_
    iterate 5 (refine OpsK.step rfl rfl rfl ?_; go_simp)
    refine OpsK.nil (hK _ _ fun a' hf' => ?_)
    clear hK K HF
    have HF : Fr 75 [] [(0, .slice (some ad) l.length c), (4, .map (some r)), (5, .bool more), (6, .int .i64 (j : Nat)), (7, .pointer (some ⟨cb, 0, none⟩)), (8, .int .i64 (q3 : Nat)), (31, .bool false)] a' := hf'.sub ⟨rfl, rfl, rfl, rfl, rfl, rfl, rfl, trivial⟩
    clear hf'
    refine wpIn_cond_false (HF.tmp rfl) (wpIn_exit ?_)
    simp only [Exit.then, Exit.inBlock, ↓reduceIte]
    clear hnlt
    have hq3 := HEq3.out
    have hq3b : q3 ≤ l.length := by rw [hq3]; exact foldIf_bound _ _ _ _ hn0b HVB.out
    have HQ3 := Aside0.mk hq3
    clear hq3 k3
    refine wpIn_seq (wpIn_seq ?_)
    refine wpIn_region_k (fun _ => trivial) rfl wideC HF fun K hK => ?_
    refine OpsK.step rfl rfl rfl ?_
    go_simp
    refine OpsK.nil (hK _ _ fun a' hf' => ?_)
    clear hK K HF
    have HF : Fr 75 [] [(0, .slice (some ad) l.length c), (4, .map (some r)), (5, .bool more), (6, .int .i64 (j : Nat)), (7, .pointer (some ⟨cb, 0, none⟩)), (8, .int .i64 (q3 : Nat)), (10, .int .i64 0)] a' := hf'.sub ⟨rfl, rfl, rfl, rfl, rfl, rfl, rfl, trivial⟩
    clear hf'
    refine wpIn_block (wpIn_loop (fun a wr2 => ∃ n : Nat, n ≤ x.f4.length ∧ Fr 75 [] [(0, .slice (some ad) l.length c), (4, .map (some r)), (5, .bool more), (6, .int .i64 (j : Nat)), (7, .pointer (some ⟨cb, 0, none⟩)), (8, .int .i64 ((foldUn m' (x.f4.take n) q3 : Nat) : Int)), (10, .int .i64 (n : Nat))] a ∧ w1 = wr2)
     (fun a _ => x.f4.length - (intOf (a.eval (.tmp 10))).toNat) ⟨0, Nat.zero_le _, HF, rfl⟩ ?_)
    clear HF
    rintro a wr2 ⟨n, hn, HF, rfl⟩
    have hmu : x.f4.length - (intOf (a.eval (.tmp 10))).toNat = x.f4.length - n := by rw [HF.tmp (k := 10) rfl]; simp [intOf]
    rw [hmu]
    clear hmu
    refine wpIn_seq (wpIn_seq ?_)
    by_cases hnl : n < x.f4.length
    ·have hltn : ((n : Nat) : Int) < ((x.f4.length : Nat) : Int) := by omega
     obtain ⟨ad3, hA3, hc3⟩ := Kd.at_string HG42.out (n : Int) (by omega) (by omega)
     simp only [Int.toNat_natCast] at hc3
     rw [hA3] at k4
     obtain ⟨s, hs⟩ : ∃ s, s = rdOf ByteArray.empty x.f4 (n : Int) := ⟨_, rfl⟩
     rw [← hs] at hc3
     have hsn : s = x.f4[n] := by rw [hs]; simp [rdOf, List.getD_eq_getElem?_getD, List.getElem?_eq_getElem hnl]
     have hlks := HLK.out s
     obtain ⟨g, hg⟩ : ∃ g, g = Prot.get m' s := ⟨_, rfl⟩
     rw [← hg] at hlks
     have hgb : g ≤ l.length := by rw [hg]; exact HVB.out _
     have htk : foldUn m' (x.f4.take (n + 1)) q3 = max (foldUn m' (x.f4.take n) q3) (g + 1) := by rw [foldUn_take _ _ hnl, ← hsn, hg]
     obtain ⟨q, hq⟩ : ∃ q, q = foldUn m' (x.f4.take n) q3 := ⟨_, rfl⟩
     rw [← hq] at HF htk
     have HTK := Aside0.mk htk
     have HWN := Aside0.mk (wrapJ (j := n) (by omega))
     clear hs hsn hg htk hq
     refine wpIn_region_k (fun _ => trivial) rfl wideC HF fun K hK => ?_
     iterate 5 (refine OpsK.step rfl rfl rfl ?_; go_simp)
     refine OpsK.nil (hK _ _ fun a' hf' => ?_)
     clear hK K HF
     have HF : Fr 75 [] [(0, .slice (some ad) l.length c), (4, .map (some r)), (5, .bool more), (6, .int .i64 (j : Nat)), (7, .pointer (some ⟨cb, 0, none⟩)), (8, .int .i64 (q : Nat)), (10, .int .i64 (n : Nat)), (47, .bool true)] a' := hf'.sub ⟨rfl, rfl, rfl, rfl, rfl, rfl, rfl, rfl, trivial⟩
     clear hf'
     refine wpIn_cond_true (HF.tmp rfl) (wpIn_skip ?_)
     show Code.wpIn _ _ _ (Code.seq _ _) _ _ _
     refine wpIn_seq (wpIn_block ?_)
     have hwg := wrapJ (j := g) (by omega)
     refine wpIn_region_k (fun _ => trivial) rfl wideC HF fun K hK => ?_
     iterate 10 (refine OpsK.step rfl rfl rfl ?_; go_simp)
     rw [if_max1]
     refine OpsK.step rfl rfl rfl ?_
     go_simp
     refine OpsK.nil (hK _ _ fun a2 hf' => ?_)
     clear hK K HF
     have HF : Fr 75 [] [(0, .slice (some ad) l.length c), (4, .map (some r)), (5, .bool more), (6, .int .i64 (j : Nat)), (7, .pointer (some ⟨cb, 0, none⟩)), (8, .int .i64 ((max q (g + 1) : Nat) : Int)), (10, .int .i64 (n : Nat))] a2 := hf'.sub ⟨rfl, rfl, rfl, rfl, rfl, rfl, rfl, trivial⟩
     clear hf'
     rw [← HTK.out] at HF
     show Code.wpIn _ _ _ (Code.region 16 _ _) _ _ _
     refine wpIn_region_k (fun _ => trivial) rfl wideC HF fun K hK => ?_
     iterate 3 (refine OpsK.step rfl rfl rfl ?_; go_simp)
     refine OpsK.nil (hK _ _ fun a3 hf' => ?_)
     clear hK K HF
     rw [HWN.out] at hf'
     have HF : Fr 75 [] [(0, .slice (some ad) l.length c), (4, .map (some r)), (5, .bool more), (6, .int .i64 (j : Nat)), (7, .pointer (some ⟨cb, 0, none⟩)), (8, .int .i64 ((foldUn m' (x.f4.take (n + 1)) q3 : Nat) : Int)), (10, .int .i64 ((n + 1 : Nat) : Int))] a3 := hf'.sub ⟨rfl, rfl, rfl, rfl, rfl, rfl, rfl, trivial⟩
     clear hf'
     refine ⟨⟨n + 1, by omega, HF, rfl⟩, ?_⟩
     rw [HF.tmp (k := 10) rfl]
     simp only [intOf]
     omega
    ·obtain rfl : n = x.f4.length := by omega
     have hnlt : ¬ ((x.f4.length : Nat) : Int) < ((x.f4.length : Nat) : Int) := by omega
     rw [List.take_length] at HF
     obtain ⟨q4, hq4⟩ : ∃ q, q = foldUn m' x.f4 q3 := ⟨_, rfl⟩
     rw [← hq4] at HF
     have HEq4 := Aside0.mk hq4
     clear hq4
     refine wpIn_region_k (fun _ => trivial) rfl wideC HF fun K hK => ?_
     iterate 5 (refine OpsK.step rfl rfl rfl ?_; go_simp)
     refine OpsK.nil (hK _ _ fun a' hf' => ?_)
     clear hK K HF
     have HF : Fr 75 [] [(0, .slice (some ad) l.length c), (4, .map (some r)), (5, .bool more), (6, .int .i64 (j : Nat)), (7, .pointer (some ⟨cb, 0, none⟩)), (8, .int .i64 (q4 : Nat)), (47, .bool false)] a' := hf'.sub ⟨rfl, rfl, rfl, rfl, rfl, rfl, rfl, trivial⟩
     clear hf'
     refine wpIn_cond_false (HF.tmp rfl) (wpIn_exit ?_)
     simp only [Exit.then, Exit.inBlock, ↓reduceIte]
     clear hnlt
     have hq4 := HEq4.out
     have hq4b : q4 ≤ l.length + 1 := by rw [hq4]; exact foldUn_bound _ _ _ _ (by omega) HVB.out
     have hwants : wants m' (toC x) = q4 := by unfold wants; rw [hq4, HQ3.out, HN0.out]; rfl
     have hpc := HPC.out
     rw [hwants, ← HN0.out] at hpc
     have HPC2 := Aside0.mk hpc
     clear hq4 hwants hpc k4 HPC
     refine wpIn_seq (wpIn_seq ?_)
     by_cases hgt : l.length < q4
     ·have hgt' : ((l.length : Nat) : Int) < ((q4 : Nat) : Int) := by omega
      have hpc := HPC2.out
      rw [if_pos hgt] at hpc
      have hlv := HLV.out
      unfold levelsF at hlv
      rw [if_pos rfl, List.length_map, ← HRES.out, hpc] at hlv
      have hnone : Prot.levels (l.map toC) = none := by simpa using hlv.symm
      have HNN := Aside0.mk hnone
      clear hpc hlv hnone
      refine wpIn_region_k (fun _ => trivial) rfl wideC HF fun K hK => ?_
      iterate 4 (refine OpsK.step rfl rfl rfl ?_; go_simp)
      refine OpsK.nil (hK _ _ fun a' hf' => ?_)
      clear hK K HF
      have HF : Fr 75 [] [(0, .slice (some ad) l.length c), (4, .map (some r)), (5, .bool more), (6, .int .i64 (j : Nat)), (7, .pointer (some ⟨cb, 0, none⟩)), (63, .bool true)] a' := hf'.sub ⟨rfl, rfl, rfl, rfl, rfl, rfl, trivial⟩
      clear hf'
      refine wpIn_cond_true (HF.tmp rfl) (wpIn_seq ?_)
      refine wpIn_region_k (fun _ => trivial) rfl wideC HF fun K hK => ?_
      iterate 2 (refine OpsK.step rfl rfl rfl ?_; go_simp)
      refine OpsK.nil (hK _ _ fun a9 hf' => ?_)
      clear hK K HF
      have HF : Fr 75 [] [(2, .map none), (3, .bool false)] a9 := hf'.sub ⟨rfl, rfl, trivial⟩
      clear hf'
      refine wpIn_ret ?_
      simp only [Exit.then, Exit.inBlock, ↓reduceIte]
      exact HF.ret2 rfl rfl rfl ⟨HB2.out, by rw [HNN.out]⟩
     ·have hgt' : ¬ ((l.length : Nat) : Int) < ((q4 : Nat) : Int) := by omega
      have hpc := HPC2.out
      rw [if_neg hgt] at hpc
      have HPC3 := Aside0.mk hpc
      clear hpc
      refine wpIn_region_k (fun _ => trivial) rfl wideC HF fun K hK => ?_
      iterate 4 (refine OpsK.step rfl rfl rfl ?_; go_simp)
      refine OpsK.nil (hK _ _ fun a' hf' => ?_)
      clear hK K HF
      have HF : Fr 75 [] [(0, .slice (some ad) l.length c), (4, .map (some r)), (5, .bool more), (6, .int .i64 (j : Nat)), (7, .pointer (some ⟨cb, 0, none⟩)), (8, .int .i64 (q4 : Nat)), (63, .bool false)] a' := hf'.sub ⟨rfl, rfl, rfl, rfl, rfl, rfl, rfl, trivial⟩
      clear hf'
      refine wpIn_cond_false (HF.tmp rfl) (wpIn_skip ?_)
      clear hgt'
      show Code.wpIn _ _ _ (Code.seq _ _) _ _ _
      refine wpIn_seq ?_
      by_cases hup : n0 < q4
      ·have hup' : ((n0 : Nat) : Int) < ((q4 : Nat) : Int) := by omega
       have hpc := HPC3.out
       rw [if_pos hup] at hpc
       have hmu := run_mapUpdate_at (P := Tryz.prog) keyS Tryz.underlying62 Tryz.underlying9 HM2.out x.f5 (.int .i64 (q4 : Nat))
       rw [← emb_put] at hmu
       simp only [H.encS] at hmu
       have hm3 : H.MapAt H.encS (putMap H.encS w1 r (emb (put m' x.f5 q4))) r (emb (put m' x.f5 q4)) := HM2.out.put _
       have hb3 : Below w.heap.size w (putMap H.encS w1 r (emb (put m' x.f5 q4))) := below_putMap HB2.out hrw _
       obtain ⟨w3, hw3⟩ : ∃ w3, w3 = putMap H.encS w1 r (emb (put m' x.f5 q4)) := ⟨_, rfl⟩
       rw [← hw3] at hmu hm3 hb3
       have hvb3 : ∀ z, Prot.get (put m' x.f5 q4) z ≤ l.length := by
        intro z
        by_cases e : x.f5 = z
        ·subst e; rw [Prot.get_put_same]; omega
        ·rw [Prot.get_put_other _ _ e]; exact HVB.out z
       have HPC4 := Aside0.mk hpc
       have HM3 := Aside0.mk hm3
       have HB3 := Aside0.mk hb3
       have HVB3 := Aside0.mk hvb3
       clear hpc hm3 hb3 hw3 hvb3
       refine wpIn_region_k (fun _ => trivial) rfl wideC HF fun K hK => ?_
       iterate 6 (refine OpsK.step rfl rfl rfl ?_; go_simp)
       refine OpsK.nil (hK _ _ fun a' hf' => ?_)
       clear hK K HF
       have HF : Fr 75 [] [(0, .slice (some ad) l.length c), (4, .map (some r)), (5, .bool more), (6, .int .i64 (j : Nat)), (7, .pointer (some ⟨cb, 0, none⟩)), (8, .int .i64 (q4 : Nat)), (69, .bool true)] a' := hf'.sub ⟨rfl, rfl, rfl, rfl, rfl, rfl, rfl, trivial⟩
       clear hf'
       refine wpIn_cond_true (HF.tmp rfl) (wpIn_seq ?_)
       clear hup'
       refine wpIn_region_k (fun _ => trivial) rfl wideC HF fun K hK => ?_
       iterate 5 (refine OpsK.step rfl rfl rfl ?_; go_simp)
       refine OpsK.nil (hK _ _ fun a' hf' => ?_)
       clear hK K HF
       have HF : Fr 75 [] [(0, .slice (some ad) l.length c), (4, .map (some r)), (5, .bool more), (6, .int .i64 (j : Nat)), (7, .pointer (some ⟨cb, 0, none⟩))] a' := hf'.sub ⟨rfl, rfl, rfl, rfl, rfl, trivial⟩
       clear hf'
       refine wpIn_region_k (fun _ => trivial) rfl wideC HF fun K hK => ?_
       refine OpsK.step rfl rfl rfl ?_
       go_simp
       refine OpsK.nil (hK _ _ fun a' hf' => ?_)
       clear hK K HF
       have HF : Fr 75 [] [(0, .slice (some ad) l.length c), (4, .map (some r)), (7, .pointer (some ⟨cb, 0, none⟩)), (5, .bool true), (6, .int .i64 (j : Nat))] a' := hf'.sub ⟨rfl, rfl, rfl, rfl, rfl, trivial⟩
       clear hf'
       show Code.wpIn _ _ _ (Code.region 7 _ _) _ _ _
       refine wpIn_region_k (fun _ => trivial) rfl wideC HF fun K hK => ?_
       iterate 3 (refine OpsK.step rfl rfl rfl ?_; go_simp)
       refine OpsK.nil (hK _ _ fun a3 hf' => ?_)
       clear hK K HF
       rw [HWJ.out] at hf'
       have HF : Fr 75 [] [(0, .slice (some ad) l.length c), (4, .map (some r)), (5, .bool true), (6, .int .i64 ((j + 1 : Nat) : Int))] a3 := hf'.sub ⟨rfl, rfl, rfl, rfl, trivial⟩
       clear hf'
       refine ⟨⟨true, j + 1, put m' x.f5 q4, by omega, HF, HM3.out, HB3.out, HVB3.out, HPC4.out⟩, ?_⟩
       rw [HF.tmp (k := 6) rfl]
       simp only [intOf]
       omega
      ·have hup' : ¬ ((n0 : Nat) : Int) < ((q4 : Nat) : Int) := by omega
       have hpc := HPC3.out
       rw [if_neg hup] at hpc
       have HPC4 := Aside0.mk hpc
       clear hpc
       refine wpIn_region_k (fun _ => trivial) rfl wideC HF fun K hK => ?_
       iterate 6 (refine OpsK.step rfl rfl rfl ?_; go_simp)
       refine OpsK.nil (hK _ _ fun a' hf' => ?_)
       clear hK K HF
       have HF : Fr 75 [] [(0, .slice (some ad) l.length c), (4, .map (some r)), (5, .bool more), (6, .int .i64 (j : Nat)), (7, .pointer (some ⟨cb, 0, none⟩)), (69, .bool false)] a' := hf'.sub ⟨rfl, rfl, rfl, rfl, rfl, rfl, trivial⟩
       clear hf'
       refine wpIn_cond_false (HF.tmp rfl) (wpIn_skip ?_)
       show Code.wpIn _ _ _ (Code.region 7 _ _) _ _ _
       refine wpIn_region_k (fun _ => trivial) rfl wideC HF fun K hK => ?_
       iterate 3 (refine OpsK.step rfl rfl rfl ?_; go_simp)
       refine OpsK.nil (hK _ _ fun a3 hf' => ?_)
       clear hK K HF
       rw [HWJ.out] at hf'
       have HF : Fr 75 [] [(0, .slice (some ad) l.length c), (4, .map (some r)), (5, .bool more), (6, .int .i64 ((j + 1 : Nat) : Int))] a3 := hf'.sub ⟨rfl, rfl, rfl, rfl, trivial⟩
       clear hf'
       refine ⟨⟨more, j + 1, m', by omega, HF, HM2.out, HB2.out, HVB.out, HPC4.out⟩, ?_⟩
       rw [HF.tmp (k := 6) rfl]
       simp only [intOf]
       omega
  ·obtain rfl : j = l.length := by omega
   have hnlt : ¬ ((l.length : Nat) : Int) < ((l.length : Nat) : Int) := by omega
   have hres : RES = some (m', more) := by
    have h := HP.out
    rw [List.drop_of_length_le (by simp)] at h
    exact h
   have hlv := HLV.out
   unfold levelsF at hlv
   rw [if_pos rfl, List.length_map, ← HRES.out, hres] at hlv
   have hnext : if more = true then levelsF (l.map toC) k1 m' = some (Prot.levels (l.map toC)) else Prot.levels (l.map toC) = some m' := by
    cases more with
    | true => simpa using hlv
    | false => simpa using hlv.symm
   have HNX := Aside0.mk hnext
   clear hlv hnext hres HP HLV HRES
   refine wpIn_region_k (fun _ => trivial) rfl wideC HF fun K hK => ?_
   iterate 4 (refine OpsK.step rfl rfl rfl ?_; go_simp)
   refine OpsK.nil (hK _ _ fun a' hf' => ?_)
   clear hK K HF
   have HF : Fr 75 [] [(0, .slice A l.length c), (4, .map (some r)), (5, .bool more), (16, .bool false)] a' := hf'.sub ⟨rfl, rfl, rfl, rfl, trivial⟩
   clear hf'
   refine wpIn_cond_false (HF.tmp rfl) (wpIn_exit ?_)
   simp only [Exit.then, Exit.inBlock, ↓reduceIte]
   exact ⟨k1, Nat.lt_succ_self _, more, m', HF.sub ⟨rfl, rfl, rfl, trivial⟩, HM.out, HBW.out, HVB.out, HNX.out⟩
end
end Go.Proofs.YtlhkeohcickiaaaGreatDoor.E

