/- Part 29 of 36 of the proof of ProtestProofs: lemmas, without conditions. -/
import Derived.Test.YtlhkeohcickiaaaGreatDoorKP28
set_option linter.all false
namespace Go.Proofs.YtlhkeohcickiaaaGreatDoor.E
open Go.RowKit Go.Proofs.YtlhkeohcickiaaaGreatDoor.H Go.Proofs.YtlhkeohcickiaaaGreatDoorW.PrintWords Go.Proofs.YtlhkeohcickiaaaGreatDoorW.PrintLast Go.Proofs.YtlhkeohcickiaaaGreatDoorW.PrintMore
section
open Prot (heldOf roundL roundP addL addOne mkLevel mkLevels at_ firesB Good Fits)
attribute [local go_sem] slk sget sput uponK_value uponK_skip uponK_enter
open Prot (stepR passR mkLevel mkLevels)
attribute [local go_sem] PureRes_value PureRes_skip
theorem build80 (A : Option Addr) (n c : Nat) (w : World) : (Instr.build 80 #[(0, Value.slice A n c)]).run Tryz.prog w = .ok (.agg #[.slice A n c, .slice none 0 0]) w := by kernel_rfl
theorem results_c80 {fn : Func} {c : Nat} {l : Slots} {a : Act} {N : Nat} {ds : List Deferred} {w : World} {b : Nat} {A B : Option Addr} {n1 n2 c1 c2 : Nat} (hf : Fr N ds l a) (h : fn.results = #[.cell c 80]) (hc : sget l c = some (.pointer (some ⟨b, 0, none⟩)))
  (hb : w.heap[b]? = some (.cells #[.slice A n1 c1, .slice B n2 c2] 80 (0, 0))) : (results fn a.tmps).run Tryz.prog w = .ok (.agg #[.slice A n1 c1, .slice B n2 c2]) w := by
 have h1 := hf.know c _ hc
 have k0 : w.cell? ⟨b, 0, none⟩ = some (.slice A n1 c1) := by unfold World.cell?; rw [hb]; rfl
 have k1 : w.cell? ⟨b, 1, none⟩ = some (.slice B n2 c2) := by unfold World.cell?; rw [hb]; rfl
 have ha := Tryz.isAgg80
 have hu := Tryz.underlying80
 have hl : (loadVar 80 ⟨b, 0, none⟩).run Tryz.prog w = .ok (.agg #[.slice A n1 c1, .slice B n2 c2]) w := by go_simp
 simp [results, h, h1, go_sem, k0, k1, ha, hu]
def refOrder (m : List (ByteArray × Nat)) (l0 : List S25) (ed : Int) (facts : List ByteArray) : List Nat := Prot.made (Prot.get m) l0.length ed (l0.map toC) facts
def besomref09_make1.f (l0 : List S25) (a1 : Int) (l2 : List ByteArray) : Option (List ByteArray × List Int) :=
 if l0.length ≤ 64 ∧ l2.length ≤ 64 then (match Prot.levels (l0.map toC) with | none => none | some m => some (heldOf (l0.map toC) l2 (refOrder m l0 a1 l2), ints (refOrder m l0 a1 l2))) else none
theorem pass_cons' (lv : ByteArray → Nat) (ed : Int) (s : Nat) (book : List (Prot.Cl ByteArray)) (facts start : List ByteArray) (n j : Nat) (h : j < n) (o : List Nat) :
  passR lv ed s book facts start ((List.range n).drop j) o = passR lv ed s book facts start ((List.range n).drop (j + 1)) (stepR lv ed s book facts start o j) := by
 rw [List.drop_eq_getElem_cons (by simpa using h)]
 simp [passR]
theorem held_len (book : List (Prot.Cl ByteArray)) (facts : List ByteArray) (o : List Nat) : (heldOf book facts o).length = facts.length + o.length := by simp [heldOf, Prot.thens]
set_option maxRecDepth 100000 in
set_option maxHeartbeats 4000000 in
theorem make_calls (A0 : Option Addr) (c0 : Nat) (l0 : List S25) (ed : Int) (A2 : Option Addr) (c2 : Nat) (facts : List ByteArray) (m : List (ByteArray × Nat)) (w : World) (hr0 : Kd.C k25 w A0 l0.length l0) (hlen : l0.length ≤ 64) (hlf : facts.length ≤ 64)
  (hr2 : Kd.C Kd.string w A2 facts.length facts) (hlv : Prot.levels (l0.map toC) = some m) :
  Calls Tryz.prog 55 #[.slice A0 l0.length c0, .int .i64 ed, .slice A2 facts.length c2] w fun e w' => ∃ Hv Rv, e = .returned (.agg #[Hv, Rv]) ∧ RS w' w.heap.size Hv (heldOf (l0.map toC) facts (refOrder m l0 ed facts)) ∧
   RI w' w.heap.size Rv (ints (refOrder m l0 ed facts)) ∧ Below w.heap.size w w' := by
 have hu25 := Tryz.underlying25
 have hfit := Prot.levels_fits hlv
 obtain ⟨O, hO⟩ : ∃ O, O = refOrder m l0 ed facts := ⟨_, rfl⟩
 have hms := Prot.made_spec (ed := ed) facts hfit.1 (top := l0.length) (fun c _ => by have := hfit.2 c.thn; simpa using this)
 have hOl : O.length ≤ 64 := by
  have := hms.2.1.length_le
  rw [hO]
  unfold refOrder
  simp only [List.length_map] at this
  omega
 have hmk : mkLevels (Prot.get m) ed (l0.map toC) facts (l0.length + 1) (l0.length + 1) 0 [] = some O := by
  have := hms.1
  rw [List.length_map] at this
  rw [hO]
  exact this
 rw [← hO]
 have HR0 := Aside0.mk hr0
 have HR2 := Aside0.mk hr2
 have HLV := Aside0.mk hlv
 have HMK := Aside0.mk hmk
 have HLC := Aside0.mk (levels_calls A0 c0 l0)
 clear hr0 hr2 hlv hmk hms hfit hO
 refine callsK (args := [.slice A0 l0.length c0, .int .i64 ed, .slice A2 facts.length c2]) Tryz.func55 rfl Tryz.ntmps55 (by simp) fun a HF0 => ?_
 have HF : Fr 85 [] [(0, .slice A0 l0.length c0), (1, .int .i64 ed), (2, .slice A2 facts.length c2)] a := HF0
 clear HF0
 refine wpIn_seq ?_
 refine wpIn_region_k (fun _ => trivial) rfl wideC HF fun K hK => ?_
 refine OpsK.step rfl rfl rfl ?_
 go_simp
 refine OpsK.nil (hK _ _ fun a' hf' => ?_)
 clear hK K HF
 have HF : Fr 85 [] [(0, .slice A0 l0.length c0), (1, .int .i64 ed), (2, .slice A2 facts.length c2), (6, .pointer (some ⟨w.heap.size, 0, none⟩))] a' := hf'.sub ⟨rfl, rfl, rfl, rfl, trivial⟩
 clear hf'
 have ha0 : (w.alloc (.cells #[.slice none 0 0, .slice none 0 0] 80)).heap[w.heap.size]? = some (.cells #[.slice none 0 0, .slice none 0 0] 80 (0, 0)) := World.alloc_heap_new w _
 have hb0 : Below w.heap.size w (w.alloc (.cells #[.slice none 0 0, .slice none 0 0] 80)) := (Below.refl _ w).alloc (Nat.le_refl _) _
 have hs0 : (w.alloc (.cells #[.slice none 0 0, .slice none 0 0] 80)).heap.size = w.heap.size + 1 := by simp
 obtain ⟨ab, hab⟩ : ∃ ab, ab = w.heap.size := ⟨_, rfl⟩
 rw [← hab] at HF ha0
 have habw : w.heap.size ≤ ab := Nat.le_of_eq hab.symm
 generalize w.alloc (.cells #[.slice none 0 0, .slice none 0 0] 80) = w1 at ha0 hb0 hs0 ⊢
 have HA0 := Aside0.mk ha0
 have HB0 := Aside0.mk hb0
 have HAB := Aside0.mk hab
 clear ha0 hb0 hab
 refine wpIn_seq ?_
 refine wpIn_region_k (fun _ => trivial) rfl wideC HF fun K hK => ?_
 iterate 2 (refine OpsK.step rfl rfl rfl ?_; go_simp)
 refine (HLC.out w1 (Kd.C_below HR0.out HB0.out) hlen).mono ?_
 rintro e w2 ⟨hb2, he⟩
 rw [HLV.out] at he
 obtain ⟨r, rfl, hm2, hrw⟩ := he
 iterate 5 (refine OpsK.step rfl rfl rfl ?_; go_simp)
 refine OpsK.nil (hK _ _ fun a' hf' => ?_)
 clear hK K HF
 have HF : Fr 85 [] [(0, .slice A0 l0.length c0), (1, .int .i64 ed), (6, .pointer (some ⟨ab, 0, none⟩)), (2, .slice A2 facts.length c2), (7, .map (some r))] a' := hf'.sub ⟨rfl, rfl, rfl, rfl, rfl, trivial⟩
 clear hf'
 have HM2 := Aside0.mk hm2
 have HB2 := Aside0.mk (below_then HB0.out HB0.out.size hb2)
 have HA2 := Aside0.mk ((hb2.block ab (by have := HAB.out; omega)).trans HA0.out)
 have hz2 := hb2.size
 clear hm2 hb2
 obtain ⟨v1, W3, hap, hown, hg, hat⟩ := spread_run (W := w2.alloc (.cells #[] 9)) w.heap.size _ [] facts (own_new w2 w.heap.size (by omega)) A2 c2 (Kd.C_below HR2.out (HB2.out.alloc HB2.out.size _)) (by simp; omega) (by simp; omega)
 simp only [List.nil_append] at hown
 obtain ⟨A3, c3, rfl, _⟩ := own_slice hown
 have hb3 : Below w2.heap.size w2 W3 := ⟨hg.os, hg.tape, hg.output, Nat.le_trans (by simp) hg.size, fun k hk => (hg.block k (by simp; omega) (by simp only [Value.ownBlock, ne_eq, Option.some.injEq]; omega)).trans (Below.heap_alloc w2 _ _ hk)⟩
 have HOW := Aside0.mk hown
 have HB3 := Aside0.mk hb3
 clear hown hg hat hb3
 refine wpIn_seq ?_
 refine wpIn_region_k (fun _ => trivial) rfl wideC HF fun K hK => ?_
 iterate 2 (refine OpsK.step rfl rfl rfl ?_; go_simp)
 refine OpsK.step rfl rfl rfl ?_
 simp only [execOp, resolve, invoke, builtin, Sem.run_bind, Sem.run_pure, Result.andThen_ok, List.map_toArray, List.map_cons, List.map_nil, slk, sget, sput, ↓reduceIte, Nat.reduceEqDiff, Option.getD_some, hap, uponK_value]
 refine OpsK.step rfl rfl rfl ?_
 simp only [execOp, resolve, Sem.run_bind, Sem.run_pure, Result.andThen_ok, List.map_toArray, List.map_cons, List.map_nil, slk, sget, sput, ↓reduceIte, Nat.reduceEqDiff, Option.getD_some, build80, uponK_value]
 iterate 2 (refine OpsK.step rfl rfl rfl ?_; go_simp)
 refine OpsK.nil (hK _ _ fun a' hf' => ?_)
 clear hK K HF
 have HF : Fr 85 [] [(0, .slice A0 l0.length c0), (1, .int .i64 ed), (6, .pointer (some ⟨ab, 0, none⟩)), (7, .map (some r)), (9, .pointer (some ⟨W3.heap.size, 0, none⟩))] a' := hf'.sub ⟨rfl, rfl, rfl, rfl, rfl, trivial⟩
 clear hf'
 clear hap
 have hst : MkSt w ab W3.heap.size r m (.slice none 0 0) [] (heldOf (l0.map toC) facts []) (ints []) (.slice A3 facts.length c3) (.slice none 0 0) (W3.alloc (.cells #[.slice A3 facts.length c3, .slice none 0 0] 80)) := by
  have hz3 := HB3.out.size
  have hal : Below W3.heap.size W3 (W3.alloc (.cells #[.slice A3 facts.length c3, .slice none 0 0] 80)) := (Below.refl _ _).alloc (Nat.le_refl _) _
  have hwl : w.heap.size ≤ w2.heap.size := HB2.out.size
  have hal2 : ab < w2.heap.size := (Array.getElem?_eq_some_iff.1 HA2.out).1
  refine ⟨(below_then HB2.out hwl HB3.out).alloc (by omega) _, ?_, World.alloc_heap_new W3 _, by omega, ?_, ⟨habw, by omega⟩, Kd.R_nil _ _ _ _ _, ?_, Kd.R_nil _ _ _ _ _⟩
  ·exact (HM2.out.below HB3.out HM2.out.lt).alloc _
  ·exact (hal.block ab (by omega)).trans ((HB3.out.block ab hal2).trans HA2.out)
  ·have := R_of_own HOW.out
   refine Kd.R_below (by simpa [heldOf, Prot.thens] using this) hal
 generalize W3.alloc (.cells #[.slice A3 facts.length c3, .slice none 0 0] 80) = w3 at hst ⊢
 generalize W3.heap.size = mb at HF hst
 have HST := Aside0.mk hst
 clear hst
 refine wpIn_seq ?_
 refine wpIn_seq ?_
 refine wpIn_region_k (fun _ => trivial) rfl wideC HF fun K hK => ?_
 refine OpsK.step rfl rfl rfl ?_
 go_simp
 refine OpsK.nil (hK _ _ fun a' hf' => ?_)
 clear hK K HF
 have HF : Fr 85 [] [(0, .slice A0 l0.length c0), (1, .int .i64 ed), (6, .pointer (some ⟨ab, 0, none⟩)), (7, .map (some r)), (9, .pointer (some ⟨mb, 0, none⟩)), (10, .int .i64 0)] a' := hf'.sub ⟨rfl, rfl, rfl, rfl, rfl, rfl, trivial⟩
 clear hf'
 refine wpIn_block (wpIn_loop (fun a wr => ∃ (s : Nat) (o : List Nat) (Sv Hv Rv : Value) (st : List ByteArray), s ≤ l0.length + 1 ∧ Fr 85 [] [(0, .slice A0 l0.length c0), (1, .int .i64 ed), (6, .pointer (some ⟨ab, 0, none⟩)), (7, .map (some r)), (9, .pointer (some ⟨mb, 0, none⟩)), (10, .int .i64 (s : Nat))] a ∧ MkSt w ab mb r m Sv st (heldOf (l0.map toC) facts o) (ints o) Hv Rv wr ∧ mkLevels (Prot.get m) ed (l0.map toC) facts (l0.length + 1) (l0.length + 1 - s) s o = some O)
  (fun a _ => l0.length + 1 - (intOf (a.eval (.tmp 10))).toNat) ⟨0, [], _, _, _, _, Nat.zero_le _, HF, HST.out, HMK.out⟩ ?_)
 clear HF
 rintro a wr ⟨s, o, Sv, Hv, Rv, st, hs, HF, hst, hmk⟩
 have hmu : l0.length + 1 - (intOf (a.eval (.tmp 10))).toNat = l0.length + 1 - s := by rw [HF.tmp (k := 10) rfl]; simp [intOf]
 rw [hmu]
 clear hmu HST HMK
 have HST := Aside0.mk hst
 have HMK := Aside0.mk hmk
 clear hst hmk
 refine wpIn_seq (wpIn_seq ?_)
 by_cases hsl : s ≤ l0.length
 ·have hle : ((s : Nat) : Int) ≤ ((l0.length : Nat) : Int) := by omega
  obtain ⟨n, hn⟩ : ∃ n, l0.length + 1 - s = n + 1 := ⟨l0.length - s, by omega⟩
  have hmk := HMK.out
  rw [hn] at hmk
  obtain ⟨o1, hml, hmr⟩ := Option.bind_eq_some_iff.1 (show (mkLevel (Prot.get m) ed (l0.map toC) facts s (l0.length + 1) o).bind _ = some O from hmk)
  have ho1 : o1.length ≤ 64 := Nat.le_trans (Prot.mkLevels_pre _ _ _ _ hmr).length_le hOl
  have hnn : n = l0.length + 1 - (s + 1) := by omega
  rw [hnn] at hmr
  have HML := Aside0.mk hml
  have HMR := Aside0.mk hmr
  have HWS := Aside0.mk (wrapJ (j := s) (by omega))
  clear hmk hn hnn hml hmr HMK
  refine wpIn_region_k (fun _ => trivial) rfl wideC HF fun K hK => ?_
  iterate 4 (refine OpsK.step rfl rfl rfl ?_; go_simp)
  refine OpsK.nil (hK _ _ fun a' hf' => ?_)
  clear hK K HF
  have HF : Fr 85 [] [(0, .slice A0 l0.length c0), (1, .int .i64 ed), (6, .pointer (some ⟨ab, 0, none⟩)), (7, .map (some r)), (9, .pointer (some ⟨mb, 0, none⟩)), (10, .int .i64 (s : Nat)), (27, .bool true)] a' := hf'.sub ⟨rfl, rfl, rfl, rfl, rfl, rfl, rfl, trivial⟩
  clear hf'
  refine wpIn_cond_true (HF.tmp rfl) (wpIn_skip ?_)
  show Code.wpIn _ _ _ (Code.seq _ _) _ _ _
  clear hle
  refine wpIn_seq (wpIn_block (wpIn_seq ?_))
  refine wpIn_region_k (fun _ => trivial) rfl wideC HF fun K hK => ?_
  refine OpsK.step rfl rfl rfl ?_
  go_simp
  refine OpsK.nil (hK _ _ fun a' hf' => ?_)
  clear hK K HF
  have HF : Fr 85 [] [(0, .slice A0 l0.length c0), (1, .int .i64 ed), (6, .pointer (some ⟨ab, 0, none⟩)), (7, .map (some r)), (9, .pointer (some ⟨mb, 0, none⟩)), (10, .int .i64 (s : Nat)), (11, .bool true)] a' := hf'.sub ⟨rfl, rfl, rfl, rfl, rfl, rfl, rfl, trivial⟩
  clear hf'
  refine wpIn_block (wpIn_loop_ghost (fun kq a wr => ∃ (more : Bool) (o : List Nat) (Sv Hv Rv : Value) (st : List ByteArray), Fr 85 [] [(0, .slice A0 l0.length c0), (1, .int .i64 ed), (6, .pointer (some ⟨ab, 0, none⟩)), (7, .map (some r)), (9, .pointer (some ⟨mb, 0, none⟩)), (10, .int .i64 (s : Nat)), (11, .bool more)] a ∧ MkSt w ab mb r m Sv st (heldOf (l0.map toC) facts o) (ints o) Hv Rv wr ∧ (if more = true then mkLevel (Prot.get m) ed (l0.map toC) facts s kq o = some o1 else o = o1))
   (l0.length + 1) ⟨true, o, _, _, _, _, HF, HST.out, by rw [if_pos rfl]; exact HML.out⟩ ?_)
  clear HF HST HML
  rintro kq a wr ⟨more, o, Sv, Hv, Rv, st, HF, hst, hml⟩
  have HST := Aside0.mk hst
  have HML := Aside0.mk hml
  clear hst hml
  refine wpIn_seq (wpIn_seq ?_)
  refine wpIn_region_k (fun _ => trivial) rfl wideC HF fun K hK => ?_
  refine OpsK.step rfl rfl rfl ?_
  go_simp
  refine OpsK.nil (hK _ _ fun a' hf' => ?_)
  clear hK K HF
  have HF : Fr 85 [] [(0, .slice A0 l0.length c0), (1, .int .i64 ed), (6, .pointer (some ⟨ab, 0, none⟩)), (7, .map (some r)), (9, .pointer (some ⟨mb, 0, none⟩)), (10, .int .i64 (s : Nat)), (30, .bool more)] a' := hf'.sub ⟨rfl, rfl, rfl, rfl, rfl, rfl, rfl, trivial⟩
  clear hf'
  cases more with
  | false =>
   have ho : o = o1 := by have := HML.out; simpa using this
   subst ho
   refine wpIn_cond_false (HF.tmp rfl) (wpIn_exit ?_)
   simp only [Exit.then, Exit.inBlock, ↓reduceIte]
   show Code.wpIn _ _ _ (Code.region 5 _ _) _ _ _
   refine wpIn_region_k (fun _ => trivial) rfl wideC HF fun K hK => ?_
   iterate 3 (refine OpsK.step rfl rfl rfl ?_; go_simp)
   refine OpsK.nil (hK _ _ fun a3 hf' => ?_)
   clear hK K HF
   rw [HWS.out] at hf'
   have HF : Fr 85 [] [(0, .slice A0 l0.length c0), (1, .int .i64 ed), (6, .pointer (some ⟨ab, 0, none⟩)), (7, .map (some r)), (9, .pointer (some ⟨mb, 0, none⟩)), (10, .int .i64 ((s + 1 : Nat) : Int))] a3 := hf'.sub ⟨rfl, rfl, rfl, rfl, rfl, rfl, trivial⟩
   clear hf'
   refine ⟨⟨s + 1, o, _, _, _, _, by omega, HF, HST.out, HMR.out⟩, ?_⟩
   rw [HF.tmp (k := 10) rfl]
   simp only [intOf]
   omega
  | true =>
   refine wpIn_cond_true (HF.tmp rfl) (wpIn_skip ?_)
   show Code.wpIn _ _ _ (Code.block _ _) _ _ _
   have hml := HML.out
   rw [if_pos rfl] at hml
   cases kq with
   | zero => simp [mkLevel] at hml
   | succ kp =>
   obtain ⟨nx, hnx⟩ : ∃ nx, nx = passR (Prot.get m) ed s (l0.map toC) facts (heldOf (l0.map toC) facts o) (List.range (l0.map toC).length) o := ⟨_, rfl⟩
   have hnext := Prot.level_next hnx hml
   have hnl : nx.length ≤ 64 := by
    have h1 := hnext
    split at h1
    ·exact Nat.le_trans (Prot.mkLevel_pre _ _ _ h1).length_le ho1
    ·rw [h1]; exact ho1
   rw [List.length_map] at hnx
   have hol : o.length ≤ 64 := Nat.le_trans (by rw [hnx]; exact (Prot.passR_pre _ _ _ _ _ _ _ _).length_le) hnl
   have HNX := Aside0.mk hnx
   have HNT := Aside0.mk hnext
   clear hml hnx hnext HML
   obtain ⟨Ah, ch, hHv⟩ := Kd.R_slice HST.out.rh
   have hsz : (heldOf (l0.map toC) facts o).length ≤ 128 := by rw [held_len]; omega
   obtain ⟨hst_, hhst⟩ : ∃ hl, hl = heldOf (l0.map toC) facts o := ⟨_, rfl⟩
   obtain ⟨u0, u1, u2, u3⟩ := HST.out.cells
   have HS1 : Aside0 (MkSt w ab mb r m Hv hst_ (heldOf (l0.map toC) facts o) (ints o) Hv Rv wr) := ⟨by have h := HST.out; exact ⟨h.below, h.map, h.blk, h.hmb, h.abk, h.hab, by rw [hhst]; exact h.rh, h.rh, h.rr⟩⟩
   rw [hHv] at u0
   rw [← hhst] at u0 hsz hHv
   have HHS := Aside0.mk hhst
   have HHV := Aside0.mk hHv
   clear hhst hHv
   refine wpIn_block (wpIn_seq ?_)
   refine wpIn_region_k (fun _ => trivial) rfl wideC HF fun K hK => ?_
   iterate 3 (refine OpsK.step rfl rfl rfl ?_; go_simp)
   refine OpsK.nil (hK _ _ fun a' hf' => ?_)
   clear hK K HF
   have HF : Fr 85 [] [(0, .slice A0 l0.length c0), (1, .int .i64 ed), (6, .pointer (some ⟨ab, 0, none⟩)), (7, .map (some r)), (9, .pointer (some ⟨mb, 0, none⟩)), (10, .int .i64 (s : Nat)), (12, .slice Ah hst_.length ch)] a' := hf'.sub ⟨rfl, rfl, rfl, rfl, rfl, rfl, rfl, trivial⟩
   clear hf'
   clear u0 u1 u2 u3
   refine wpIn_seq (wpIn_seq ?_)
   refine wpIn_region_k (fun _ => trivial) rfl wideC HF fun K hK => ?_
   refine OpsK.step rfl rfl rfl ?_
   go_simp
   refine OpsK.nil (hK _ _ fun a' hf' => ?_)
   clear hK K HF
   have HF : Fr 85 [] [(0, .slice A0 l0.length c0), (1, .int .i64 ed), (6, .pointer (some ⟨ab, 0, none⟩)), (7, .map (some r)), (9, .pointer (some ⟨mb, 0, none⟩)), (10, .int .i64 (s : Nat)), (12, .slice Ah hst_.length ch), (13, .int .i64 0)] a' := hf'.sub ⟨rfl, rfl, rfl, rfl, rfl, rfl, rfl, rfl, trivial⟩
   clear hf'
   have HS0 : Aside0 (MkSt w ab mb r m (.slice Ah hst_.length ch) hst_ (heldOf (l0.map toC) facts o) (ints o) Hv Rv wr) := ⟨by rw [← HHV.out]; exact HS1.out⟩
   clear HS1 HST
   refine wpIn_block (wpIn_loop (fun a wr => ∃ (i : Nat) (p : List Nat) (Pv Qv : Value), i ≤ l0.length ∧ Fr 85 [] [(0, .slice A0 l0.length c0), (1, .int .i64 ed), (6, .pointer (some ⟨ab, 0, none⟩)), (7, .map (some r)), (9, .pointer (some ⟨mb, 0, none⟩)), (10, .int .i64 (s : Nat)), (12, .slice Ah hst_.length ch), (13, .int .i64 (i : Nat))] a ∧ MkSt w ab mb r m (.slice Ah hst_.length ch) hst_ (heldOf (l0.map toC) facts p) (ints p) Pv Qv wr ∧ nx = passR (Prot.get m) ed s (l0.map toC) facts hst_ ((List.range l0.length).drop i) p)
    (fun a _ => l0.length - (intOf (a.eval (.tmp 13))).toNat) ⟨0, o, _, _, Nat.zero_le _, HF, HS0.out, by rw [HHS.out]; exact HNX.out⟩ ?_)
   clear HF
   rintro a wr ⟨i, p, Pv, Qv, hi, HF, hst, hps⟩
   have hmu : l0.length - (intOf (a.eval (.tmp 13))).toNat = l0.length - i := by rw [HF.tmp (k := 13) rfl]; simp [intOf]
   rw [hmu]
   clear hmu
   have HST := Aside0.mk hst
   have HPS := Aside0.mk hps
   clear hst hps
   refine wpIn_seq (wpIn_seq ?_)
   by_cases hil : i < l0.length
   ·have hlt : ((i : Nat) : Int) < ((l0.length : Nat) : Int) := by omega
    have hr0r := Kd.C_below HR0.out HST.out.below
    obtain ⟨ad, A3, c3, A4, c4, hA0, x0, x1, x2, x3, x4, x5, l3, g3, l4, g4⟩ := at_T25 hr0r (i : Int) (by omega) (by omega)
    simp only [Int.toNat_natCast] at x0 x1 x2 x3 x4 x5
    have hps := HPS.out
    rw [pass_cons' _ _ _ _ _ _ _ _ hil] at hps
    obtain ⟨x, hx⟩ : ∃ x, x = rd_T25 l0 (i : Int) := ⟨_, rfl⟩
    rw [← hx] at x0 x1 x2 x3 x4 x5 l3 g3 l4 g4
    have hat : at_ (l0.map toC) i = toC x := by rw [hx]; exact at_toC l0 hil
    have hstep : stepR (Prot.get m) ed s (l0.map toC) facts hst_ p i = if (decide (Prot.get m x.f5 = s) && (firesB ed hst_ (toC x) && !decide (x.f5 ∈ heldOf (l0.map toC) facts p))) = true then p ++ [i] else p := by
     unfold stepR
     rw [hat, contains_mem]
     rfl
    have hpl : p.length ≤ 64 := Nat.le_trans (by rw [HPS.out]; exact (Prot.passR_pre _ _ _ _ _ _ _ _).length_le) hnl
    rw [hstep] at hps
    have HP2 := Aside0.mk hps
    have HAT := Aside0.mk hat
    have HG3 := Aside0.mk g3
    have HG4 := Aside0.mk g4
    have HL3 := Aside0.mk l3
    have HL4 := Aside0.mk l4
    have HWI := Aside0.mk (wrapJ (j := i) (by omega))
    clear hps hat hstep hx g3 g4 l3 l4 hr0r
    have hA0' := hA0
    have HAA := Aside0.mk hA0'
    clear hA0'
    rw [hA0] at HF
    clear hA0
    refine wpIn_region_k (fun _ => trivial) rfl wideC HF fun K hK => ?_
    iterate 4 (refine OpsK.step rfl rfl rfl ?_; go_simp)
    refine OpsK.nil (hK _ _ fun a' hf' => ?_)
    clear hK K HF
    have HF : Fr 85 [] [(0, .slice (some ad) l0.length c0), (1, .int .i64 ed), (6, .pointer (some ⟨ab, 0, none⟩)), (7, .map (some r)), (9, .pointer (some ⟨mb, 0, none⟩)), (10, .int .i64 (s : Nat)), (12, .slice Ah hst_.length ch), (13, .int .i64 (i : Nat)), (36, .bool true)] a' := hf'.sub ⟨rfl, rfl, rfl, rfl, rfl, rfl, rfl, rfl, rfl, trivial⟩
    clear hf'
    refine wpIn_cond_true (HF.tmp rfl) (wpIn_skip ?_)
    show Code.wpIn _ _ _ (Code.seq _ _) _ _ _
    refine wpIn_seq (wpIn_block (wpIn_seq ?_))
    refine wpIn_region_k (fun _ => trivial) rfl wideC HF fun K hK => ?_
    iterate 6 (refine OpsK.step rfl rfl rfl ?_; go_simp)
    refine OpsK.nil (hK _ _ fun a' hf' => ?_)
    clear hK K HF
    have HF : Fr 85 [] [(0, .slice (some ad) l0.length c0), (1, .int .i64 ed), (6, .pointer (some ⟨ab, 0, none⟩)), (7, .map (some r)), (9, .pointer (some ⟨mb, 0, none⟩)), (10, .int .i64 (s : Nat)), (12, .slice Ah hst_.length ch), (13, .int .i64 (i : Nat)), (14, .pointer (some ⟨wr.heap.size, 0, none⟩))] a' := hf'.sub ⟨rfl, rfl, rfl, rfl, rfl, rfl, rfl, rfl, rfl, trivial⟩
    clear hf'
    have hcb : (wr.alloc (.cells #[.string x.f0, .int .i64 x.f1, .int .i64 x.f2, .slice A3 x.f3.length c3, .slice A4 x.f4.length c4, .string x.f5] 25)).heap[wr.heap.size]? = some (.cells #[.string x.f0, .int .i64 x.f1, .int .i64 x.f2, .slice A3 x.f3.length c3, .slice A4 x.f4.length c4, .string x.f5] 25 (0, 0)) := World.alloc_heap_new wr _
    have hw1 : Below wr.heap.size wr (wr.alloc (.cells #[.string x.f0, .int .i64 x.f1, .int .i64 x.f2, .slice A3 x.f3.length c3, .slice A4 x.f4.length c4, .string x.f5] 25)) := (Below.refl _ wr).alloc (Nat.le_refl _) _
    have hbw : w.heap.size ≤ wr.heap.size := HST.out.below.size
    generalize hcl : wr.heap.size = cb at hcb HF
    generalize wr.alloc (.cells #[.string x.f0, .int .i64 x.f1, .int .i64 x.f2, .slice A3 x.f3.length c3, .slice A4 x.f4.length c4, .string x.f5] 25) = w1 at hcb hw1 ⊢
    have hst1 := HST.out.after hw1
    clear x0 x1 x2 x3 x4 x5
    rw [← hcl] at hcb HF
    obtain ⟨u0, u1, u2, u3⟩ := hst1.cells
    obtain ⟨Ap, cp, hPv⟩ := Kd.R_slice hst1.rh
    obtain ⟨Aq, cq, hQv⟩ := Kd.R_slice hst1.rr
    obtain ⟨hl2, hhl⟩ : ∃ hl, hl = heldOf (l0.map toC) facts p := ⟨_, rfl⟩
    have hll : hl2.length ≤ 128 := by rw [hhl, held_len]; omega
    have hq0 : Kd.C Kd.string w1 Ap hl2.length hl2 := by rw [hhl]; have h := hst1.rh; rw [hPv] at h; exact (Kd.R_reads' h).2.2
    have hqc : hl2.length ≤ cp := by rw [hhl]; have h := hst1.rh; rw [hPv] at h; exact (Kd.R_reads' h).2.1
    rw [hPv] at u0
    rw [← hhl] at u0
    have hsr : Kd.C Kd.string w1 Ah hst_.length hst_ := (Kd.R_reads' hst1.rs).2.2
    have hsc : hst_.length ≤ ch := (Kd.R_reads' hst1.rs).2.1
    obtain ⟨cb, hcb_⟩ : ∃ cb, cb = wr.heap.size := ⟨_, rfl⟩
    rw [← hcb_] at hcb HF
    have HG32 := Aside0.mk (Kd.C_below (Kd.C_below HG3.out (Below.refl _ _)) (show Below wr.heap.size wr w1 from hw1))
    have HG42 := Aside0.mk (Kd.C_below (Kd.C_below HG4.out (Below.refl _ _)) (show Below wr.heap.size wr w1 from hw1))
    have k0 : w1.cell? ⟨cb, 0, none⟩ = some (.string x.f0) := by unfold World.cell?; rw [hcb]; rfl
    have k1 : w1.cell? ⟨cb, 1, none⟩ = some (.int .i64 x.f1) := by unfold World.cell?; rw [hcb]; rfl
    have k2 : w1.cell? ⟨cb, 2, none⟩ = some (.int .i64 x.f2) := by unfold World.cell?; rw [hcb]; rfl
    have k3 : w1.cell? ⟨cb, 3, none⟩ = some (.slice A3 x.f3.length c3) := by unfold World.cell?; rw [hcb]; rfl
    have k4 : w1.cell? ⟨cb, 4, none⟩ = some (.slice A4 x.f4.length c4) := by unfold World.cell?; rw [hcb]; rfl
    have k5 : w1.cell? ⟨cb, 5, none⟩ = some (.string x.f5) := by unfold World.cell?; rw [hcb]; rfl
    have hlk : (Instr.lookup 62 (.map (some r)) (.string x.f5) false).run Tryz.prog w1 = .ok (.int .i64 (Prot.get m x.f5 : Nat)) w1 := by
     rw [← emb_get]
     exact run_lookup_at keyS Tryz.underlying62 Tryz.underlying9 hst1.map zero3 _
    have HPV := Aside0.mk hPv
    have HQV := Aside0.mk hQv
    have HHL := Aside0.mk hhl
    have HST1 := Aside0.mk hst1
    have HCB := Aside0.mk hcb
    have HCBE := Aside0.mk hcb_
    have HW1 := Aside0.mk hw1
    have HQ0 := Aside0.mk hq0
    have HSR := Aside0.mk hsr
    have hfa := Aside0.mk (fires_any x A3 c3 A4 c4 ed Ah ch hst_ w1 HG32.out HL3.out HG42.out HL4.out hsr hsc)
    obtain ⟨fb, hfb⟩ : ∃ fb, fb = firesB ed hst_ (toC x) := ⟨_, rfl⟩
    obtain ⟨hb, hhb⟩ : ∃ hb, hb = decide (x.f5 ∈ hl2) := ⟨_, rfl⟩
    obtain ⟨gv, hgv⟩ : ∃ gv, gv = Prot.get m x.f5 := ⟨_, rfl⟩
    rw [← hgv] at hlk
    have HP3 : Aside0 (nx = passR (Prot.get m) ed s (l0.map toC) facts hst_ ((List.range l0.length).drop (i + 1)) (if (decide (gv = s) && (fb && !hb)) = true then p ++ [i] else p)) := ⟨by rw [hfb, hhb, hgv, HHL.out]; exact HP2.out⟩
    have HFB := Aside0.mk hfb
    have HHB := Aside0.mk hhb
    have HQC := Aside0.mk hqc
    clear hPv hQv hhl hst1 hcb hcb_ hcl hw1 hq0 hsr hsc hfb hhb hgv HP2 hqc
    refine wpIn_seq ?_
    by_cases hgs : gv = s
    ·have hgd : (((gv : Nat) : Int) == ((s : Nat) : Int)) = true := by rw [hgs]; simp
     have HGS := Aside0.mk hgs
     clear hgs
     cases fb with
     | true =>
      refine wpIn_region_k (fun _ => trivial) rfl wideC HF fun K hK => ?_
      iterate 6 (refine OpsK.step rfl rfl rfl ?_; go_simp)
      try rw [hgd]
      iterate 5 (refine OpsK.step rfl rfl rfl ?_; go_simp)
      refine hfa.out.mono ?_
      rintro e w2 ⟨rfl, hbf⟩
      have hst2 := HST1.out.after hbf
      have hq2 := Kd.C_below HQ0.out hbf
      have hcb2 := (hbf.block cb (Array.getElem?_eq_some_iff.1 HCB.out).1).trans HCB.out
      rw [← HFB.out]
      dsimp only
      have HST2 := Aside0.mk hst2
      have HCB2 := Aside0.mk hcb2
      have HQ2 := Aside0.mk hq2
      obtain ⟨u0, u1, u2, u3⟩ := hst2.cells
      rw [HPV.out, ← HHL.out] at u0
      have k5 : w2.cell? ⟨cb, 5, none⟩ = some (.string x.f5) := by unfold World.cell?; rw [hcb2]; rfl
      clear hst2 hcb2 hq2 hbf u1 u2 u3
      iterate 7 (refine OpsK.step rfl rfl rfl ?_; go_simp)
      refine (has_any Ap cp hl2 x.f5 w2 HQ2.out HQC.out).mono ?_
      rintro e w3 ⟨rfl, hbh⟩
      have hst3 := HST2.out.after hbh
      have hcb3 := (hbh.block cb (Array.getElem?_eq_some_iff.1 HCB2.out).1).trans HCB2.out
      have hq3 := Kd.C_below HQ2.out hbh
      rw [← HHB.out]
      dsimp only
      have HST3 := Aside0.mk hst3
      have HCB3 := Aside0.mk hcb3
      have HQ3 := Aside0.mk hq3
      clear hst3 hcb3 hq3 hbh u0 k5
      iterate 2 (refine OpsK.step rfl rfl rfl ?_; go_simp)
      refine OpsK.nil (hK _ _ fun a' hf' => ?_)
      clear hK K HF
      have HF : Fr 85 [] [(0, .slice (some ad) l0.length c0), (1, .int .i64 ed), (6, .pointer (some ⟨ab, 0, none⟩)), (7, .map (some r)), (9, .pointer (some ⟨mb, 0, none⟩)), (10, .int .i64 (s : Nat)), (12, .slice Ah hst_.length ch), (13, .int .i64 (i : Nat)), (14, .pointer (some ⟨cb, 0, none⟩)), (62, .bool (!hb))] a' := hf'.sub ⟨rfl, rfl, rfl, rfl, rfl, rfl, rfl, rfl, rfl, rfl, trivial⟩
      clear hf'
      cases hb with
      | true =>
       refine wpIn_cond_false (HF.tmp rfl) (wpIn_skip ?_)
       show Code.wpIn _ _ _ (Code.region 11 _ _) _ _ _
       refine wpIn_region_k (fun _ => trivial) rfl wideC HF fun K hK => ?_
       iterate 3 (refine OpsK.step rfl rfl rfl ?_; go_simp)
       refine OpsK.nil (hK _ _ fun a3 hf' => ?_)
       clear hK K HF
       rw [HWI.out] at hf'
       have HF : Fr 85 [] [(0, .slice (some ad) l0.length c0), (1, .int .i64 ed), (6, .pointer (some ⟨ab, 0, none⟩)), (7, .map (some r)), (9, .pointer (some ⟨mb, 0, none⟩)), (10, .int .i64 (s : Nat)), (12, .slice Ah hst_.length ch), (13, .int .i64 ((i + 1 : Nat) : Int))] a3 := hf'.sub ⟨rfl, rfl, rfl, rfl, rfl, rfl, rfl, rfl, trivial⟩
       clear hf'
       rw [← HAA.out] at HF
       refine ⟨⟨i + 1, p, _, _, by omega, HF, HST3.out, by have h := HP3.out; simpa using h⟩, ?_⟩
       rw [HF.tmp (k := 13) rfl]
       simp only [intOf]
       omega
      | false =>
       refine wpIn_cond_true (HF.tmp rfl) (wpIn_seq ?_)
       have HP4 : Aside0 (nx = passR (Prot.get m) ed s (l0.map toC) facts hst_ ((List.range l0.length).drop (i + 1)) (p ++ [i])) := ⟨by have h := HP3.out; rw [HGS.out] at h; simpa using h⟩
       have hnew : heldOf (l0.map toC) facts (p ++ [i]) = hl2 ++ [x.f5] := by rw [Prot.heldOf_append, ← HHL.out]; simp [Prot.thens, HAT.out, toC]
       have HNEW := Aside0.mk hnew
       clear hnew
       have HF2 : Fr 85 [] [(9, .pointer (some ⟨mb, 0, none⟩)), (14, .pointer (some ⟨cb, 0, none⟩)), (0, .slice (some ad) l0.length c0), (1, .int .i64 ed), (6, .pointer (some ⟨ab, 0, none⟩)), (7, .map (some r)), (10, .int .i64 (s : Nat)), (12, .slice Ah hst_.length ch), (13, .int .i64 (i : Nat))] a' := HF.sub ⟨rfl, rfl, rfl, rfl, rfl, rfl, rfl, rfl, rfl, trivial⟩
       have hbk : w3.heap[mb]? = some (.cells #[.slice Ap hl2.length cp, Qv] 80 (0, 0)) := by have h := HST3.out.blk; rw [HPV.out, ← HHL.out] at h; exact h
       refine copy_add _ rfl _ _ a' w3 mb cb w.heap.size x.f5 Ap cp hl2 Qv #[.string x.f0, .int .i64 x.f1, .int .i64 x.f2, .slice A3 x.f3.length c3, .slice A4 x.f4.length c4, .string x.f5] [(0, .slice (some ad) l0.length c0), (1, .int .i64 ed), (6, .pointer (some ⟨ab, 0, none⟩)), (7, .map (some r)), (10, .int .i64 (s : Nat)), (12, .slice Ah hst_.length ch), (13, .int .i64 (i : Nat))] rfl HF2 hbk HCB3.out rfl HQ3.out (by omega) HST3.out.below.size (fun _ _ _ _ hd hq => ⟨hd.trans hq.1, hq.2⟩) fun a' W1 v hf' hb1 hrow1 => ?_
       have HF : Fr 85 [] [(0, .slice (some ad) l0.length c0), (1, .int .i64 ed), (6, .pointer (some ⟨ab, 0, none⟩)), (7, .map (some r)), (9, .pointer (some ⟨mb, 0, none⟩)), (10, .int .i64 (s : Nat)), (12, .slice Ah hst_.length ch), (13, .int .i64 (i : Nat)), (14, .pointer (some ⟨cb, 0, none⟩))] a' := hf'.sub ⟨rfl, rfl, rfl, rfl, rfl, rfl, rfl, rfl, rfl, trivial⟩
       have hst5 := HST3.out.put0 hb1 hrow1
       clear hf' HF2 hbk hb1 hrow1
       generalize W1.setCell ⟨mb, 0, none⟩ v = w' at hst5 ⊢
       have HST5 := Aside0.mk hst5
       obtain ⟨u0, u1, u2, u3⟩ := hst5.cells
       have hlp : (ints p).length ≤ 64 := by rw [ints_len]; exact hpl
       obtain ⟨v1, W6, hap, hrow, hg, hat, A9, n9, k9, rfl⟩ := run_R_append (Kd.int .i64) (P := Tryz.prog) (W := w') w.heap.size 37 37 3 (.int .i64 0) 8 Tryz.underlying37 info3 rfl (by decide) (by decide) Qv (ints p) (i : Int) [.int .i64 (i : Nat)] (fun _ => True) (fun _ => False) rfl (fun _ hk => hk.elim) (fun _ _ => trivial) hst5.rr hst5.below.size (by omega)
       have hst6 := hst5.put1 hg hrow
       have hblk6 : W6.heap[mb]? = w'.heap[mb]? := hg.block mb hst5.lt (fun e => by
        obtain ⟨cells, hc⟩ := R_own_type hst5.rr e.symm
        rw [hst5.blk] at hc
        cases hc)
       have hm6 : W6.cell? ⟨mb, 1, none⟩ = some Qv := by rw [World.cell?_of_block (w := w') hblk6]; exact u1
       have hf6 : W6.frozen? ⟨mb, 1, none⟩ = false := by unfold World.frozen?; rw [hblk6, hst5.blk]; rfl
       have HST6 := Aside0.mk hst6
       clear hst5 hst6 hrow hg hat hblk6 u0 u2 u3
       refine wpIn_region_k (fun _ => trivial) rfl wideC HF fun K hK => ?_
       iterate 4 (refine OpsK.step rfl rfl rfl ?_; go_simp)
       refine OpsK.step rfl rfl rfl ?_
       simp only [execOp, resolve, invoke, builtin, Sem.run_bind, Sem.run_pure, Result.andThen_ok, List.map_toArray, List.map_cons, List.map_nil, slk, sget, sput, ↓reduceIte, Nat.reduceEqDiff, Option.getD_some, hap, uponK_value]
       clear hap
       iterate 2 (refine OpsK.step rfl rfl rfl ?_; go_simp)
       refine OpsK.nil (hK _ _ fun a8 hf' => ?_)
       clear hK K HF
       have HF : Fr 85 [] [(0, .slice (some ad) l0.length c0), (1, .int .i64 ed), (6, .pointer (some ⟨ab, 0, none⟩)), (7, .map (some r)), (9, .pointer (some ⟨mb, 0, none⟩)), (10, .int .i64 (s : Nat)), (12, .slice Ah hst_.length ch), (13, .int .i64 (i : Nat)), (14, .pointer (some ⟨cb, 0, none⟩))] a8 := hf'.sub ⟨rfl, rfl, rfl, rfl, rfl, rfl, rfl, rfl, rfl, trivial⟩
       clear hf'
       show Code.wpIn _ _ _ (Code.region 11 _ _) _ _ _
       refine wpIn_region_k (fun _ => trivial) rfl wideC HF fun K hK => ?_
       iterate 3 (refine OpsK.step rfl rfl rfl ?_; go_simp)
       refine OpsK.nil (hK _ _ fun a3 hf' => ?_)
       clear hK K HF
       rw [HWI.out] at hf'
       have HF : Fr 85 [] [(0, .slice (some ad) l0.length c0), (1, .int .i64 ed), (6, .pointer (some ⟨ab, 0, none⟩)), (7, .map (some r)), (9, .pointer (some ⟨mb, 0, none⟩)), (10, .int .i64 (s : Nat)), (12, .slice Ah hst_.length ch), (13, .int .i64 ((i + 1 : Nat) : Int))] a3 := hf'.sub ⟨rfl, rfl, rfl, rfl, rfl, rfl, rfl, rfl, trivial⟩
       clear hf'
       rw [← HAA.out] at HF
       refine ⟨⟨i + 1, p ++ [i], _, _, by omega, HF, by rw [HNEW.out, ints_snoc]; exact HST6.out, HP4.out⟩, ?_⟩
       rw [HF.tmp (k := 13) rfl]
       simp only [intOf]
       omega
     | false =>
      refine wpIn_region_k (fun _ => trivial) rfl wideC HF fun K hK => ?_
      iterate 6 (refine OpsK.step rfl rfl rfl ?_; go_simp)
      try rw [hgd]
      iterate 5 (refine OpsK.step rfl rfl rfl ?_; go_simp)
      refine hfa.out.mono ?_
      rintro e w2 ⟨rfl, hbf⟩
      have hst2 := HST1.out.after hbf
      have hq2 := Kd.C_below HQ0.out hbf
      have hcb2 := (hbf.block cb (Array.getElem?_eq_some_iff.1 HCB.out).1).trans HCB.out
      rw [← HFB.out]
      dsimp only
      have HST2 := Aside0.mk hst2
      clear hst2 hcb2 hq2 hbf
      iterate 2 (refine OpsK.step rfl rfl rfl ?_; go_simp)
      refine OpsK.skip rfl rfl ?_
      refine OpsK.skip rfl rfl ?_
      refine OpsK.skip rfl rfl ?_
      refine OpsK.skip rfl rfl ?_
      refine OpsK.skip rfl rfl ?_
      refine OpsK.skip rfl rfl ?_
      refine OpsK.step rfl rfl rfl ?_
      go_simp
      refine OpsK.nil (hK _ _ fun a' hf' => ?_)
      clear hK K HF
      have HF : Fr 85 [] [(0, .slice (some ad) l0.length c0), (1, .int .i64 ed), (6, .pointer (some ⟨ab, 0, none⟩)), (7, .map (some r)), (9, .pointer (some ⟨mb, 0, none⟩)), (10, .int .i64 (s : Nat)), (12, .slice Ah hst_.length ch), (13, .int .i64 (i : Nat)), (14, .pointer (some ⟨cb, 0, none⟩)), (62, .bool false)] a' := hf'.sub ⟨rfl, rfl, rfl, rfl, rfl, rfl, rfl, rfl, rfl, rfl, trivial⟩
      clear hf'
      refine wpIn_cond_false (HF.tmp rfl) (wpIn_skip ?_)
      show Code.wpIn _ _ _ (Code.region 11 _ _) _ _ _
      refine wpIn_region_k (fun _ => trivial) rfl wideC HF fun K hK => ?_
      iterate 3 (refine OpsK.step rfl rfl rfl ?_; go_simp)
      refine OpsK.nil (hK _ _ fun a3 hf' => ?_)
      clear hK K HF
      rw [HWI.out] at hf'
      have HF : Fr 85 [] [(0, .slice (some ad) l0.length c0), (1, .int .i64 ed), (6, .pointer (some ⟨ab, 0, none⟩)), (7, .map (some r)), (9, .pointer (some ⟨mb, 0, none⟩)), (10, .int .i64 (s : Nat)), (12, .slice Ah hst_.length ch), (13, .int .i64 ((i + 1 : Nat) : Int))] a3 := hf'.sub ⟨rfl, rfl, rfl, rfl, rfl, rfl, rfl, rfl, trivial⟩
      clear hf'
      rw [← HAA.out] at HF
      refine ⟨⟨i + 1, p, _, _, by omega, HF, HST2.out, by have h := HP3.out; simpa using h⟩, ?_⟩
      rw [HF.tmp (k := 13) rfl]
      simp only [intOf]
      omega
    ·have hgd : (((gv : Nat) : Int) == ((s : Nat) : Int)) = false := by simp; omega
     have HGS := Aside0.mk hgs
     clear hgs
     refine wpIn_region_k (fun _ => trivial) rfl wideC HF fun K hK => ?_
     iterate 6 (refine OpsK.step rfl rfl rfl ?_; go_simp)
     try rw [hgd]
     refine OpsK.step rfl rfl rfl ?_
     go_simp
     refine OpsK.skip rfl rfl ?_
     refine OpsK.skip rfl rfl ?_
     refine OpsK.skip rfl rfl ?_
     refine OpsK.skip rfl rfl ?_
     iterate 2 (refine OpsK.step rfl rfl rfl ?_; go_simp)
     refine OpsK.skip rfl rfl ?_
     refine OpsK.skip rfl rfl ?_
     refine OpsK.skip rfl rfl ?_
     refine OpsK.skip rfl rfl ?_
     refine OpsK.skip rfl rfl ?_
     refine OpsK.skip rfl rfl ?_
     refine OpsK.step rfl rfl rfl ?_
     go_simp
     refine OpsK.nil (hK _ _ fun a' hf' => ?_)
     clear hK K HF
     have HF : Fr 85 [] [(0, .slice (some ad) l0.length c0), (1, .int .i64 ed), (6, .pointer (some ⟨ab, 0, none⟩)), (7, .map (some r)), (9, .pointer (some ⟨mb, 0, none⟩)), (10, .int .i64 (s : Nat)), (12, .slice Ah hst_.length ch), (13, .int .i64 (i : Nat)), (14, .pointer (some ⟨cb, 0, none⟩)), (62, .bool false)] a' := hf'.sub ⟨rfl, rfl, rfl, rfl, rfl, rfl, rfl, rfl, rfl, rfl, trivial⟩
     clear hf'
     refine wpIn_cond_false (HF.tmp rfl) (wpIn_skip ?_)
     show Code.wpIn _ _ _ (Code.region 11 _ _) _ _ _
     refine wpIn_region_k (fun _ => trivial) rfl wideC HF fun K hK => ?_
     iterate 3 (refine OpsK.step rfl rfl rfl ?_; go_simp)
     refine OpsK.nil (hK _ _ fun a3 hf' => ?_)
     clear hK K HF
     rw [HWI.out] at hf'
     have HF : Fr 85 [] [(0, .slice (some ad) l0.length c0), (1, .int .i64 ed), (6, .pointer (some ⟨ab, 0, none⟩)), (7, .map (some r)), (9, .pointer (some ⟨mb, 0, none⟩)), (10, .int .i64 (s : Nat)), (12, .slice Ah hst_.length ch), (13, .int .i64 ((i + 1 : Nat) : Int))] a3 := hf'.sub ⟨rfl, rfl, rfl, rfl, rfl, rfl, rfl, rfl, trivial⟩
     clear hf'
     rw [← HAA.out] at HF
     refine ⟨⟨i + 1, p, _, _, by omega, HF, HST1.out, by have h := HP3.out; simpa [HGS.out] using h⟩, ?_⟩
     rw [HF.tmp (k := 13) rfl]
     simp only [intOf]
     omega
   ·obtain rfl : i = l0.length := by omega
    have hnlt : ¬ ((l0.length : Nat) : Int) < ((l0.length : Nat) : Int) := by omega
    have hpn : nx = p := by
     have h := HPS.out
     rw [List.drop_of_length_le (by simp)] at h
     exact h
    subst hpn
    clear HPS
    refine wpIn_region_k (fun _ => trivial) rfl wideC HF fun K hK => ?_
    iterate 4 (refine OpsK.step rfl rfl rfl ?_; go_simp)
    refine OpsK.nil (hK _ _ fun a' hf' => ?_)
    clear hK K HF
    have HF : Fr 85 [] [(0, .slice A0 l0.length c0), (1, .int .i64 ed), (6, .pointer (some ⟨ab, 0, none⟩)), (7, .map (some r)), (9, .pointer (some ⟨mb, 0, none⟩)), (10, .int .i64 (s : Nat)), (12, .slice Ah hst_.length ch), (36, .bool false)] a' := hf'.sub ⟨rfl, rfl, rfl, rfl, rfl, rfl, rfl, rfl, trivial⟩
    clear hf'
    refine wpIn_cond_false (HF.tmp rfl) (wpIn_exit ?_)
    simp only [Exit.then, Exit.inBlock, ↓reduceIte]
    clear hnlt
    obtain ⟨u0, u1, u2, u3⟩ := HST.out.cells
    obtain ⟨Ap, cp, hPv⟩ := Kd.R_slice HST.out.rh
    rw [hPv, held_len] at u0
    have hsl2 : hst_.length = facts.length + o.length := by rw [HHS.out, held_len]
    have HSL2 := Aside0.mk hsl2
    have HPV := Aside0.mk hPv
    clear hsl2 hPv
    show Code.wpIn _ _ _ (Code.region 16 _ _) _ _ _
    refine wpIn_region_k (fun _ => trivial) rfl wideC HF fun K hK => ?_
    iterate 7 (refine OpsK.step rfl rfl rfl ?_; go_simp)
    refine OpsK.nil (hK _ _ fun a' hf' => ?_)
    clear hK K HF
    rw [HSL2.out, show decide (((facts.length + o.length : Nat) : Int) < (facts.length : Int) + (nx.length : Int)) = decide (o.length < nx.length) from decide_eq_decide.2 (by omega)] at hf'
    have HF : Fr 85 [] [(0, .slice A0 l0.length c0), (1, .int .i64 ed), (6, .pointer (some ⟨ab, 0, none⟩)), (7, .map (some r)), (9, .pointer (some ⟨mb, 0, none⟩)), (10, .int .i64 (s : Nat)), (11, .bool (decide (o.length < nx.length)))] a' := hf'.sub ⟨rfl, rfl, rfl, rfl, rfl, rfl, rfl, trivial⟩
    clear hf'
    exact ⟨kp, Nat.lt_succ_self _, _, nx, _, _, _, _, HF, HST.out, HNT.out⟩
 ·obtain rfl : s = l0.length + 1 := by omega
  have hnle : ¬ ((l0.length : Nat) : Int) + 1 ≤ ((l0.length : Nat) : Int) := by omega
  have ho : o = O := by
   have h := HMK.out
   rw [Nat.sub_self] at h
   exact Option.some.inj (show some o = some O from h)
  subst ho
  clear HMK
  refine wpIn_region_k (fun _ => trivial) rfl wideC HF fun K hK => ?_
  iterate 4 (refine OpsK.step rfl rfl rfl ?_; go_simp)
  refine OpsK.nil (hK _ _ fun a' hf' => ?_)
  clear hK K HF
  have HF : Fr 85 [] [(0, .slice A0 l0.length c0), (1, .int .i64 ed), (6, .pointer (some ⟨ab, 0, none⟩)), (7, .map (some r)), (9, .pointer (some ⟨mb, 0, none⟩)), (27, .bool false)] a' := hf'.sub ⟨rfl, rfl, rfl, rfl, rfl, rfl, trivial⟩
  clear hf'
  refine wpIn_cond_false (HF.tmp rfl) (wpIn_exit ?_)
  simp only [Exit.then, Exit.inBlock, ↓reduceIte]
  clear hnle
  have hbk := HST.out.blk
  have hak := HST.out.abk
  have hne := HST.out.hab.2
  obtain ⟨u0, u1, u2, u3⟩ := HST.out.cells
  have q0 : wr.cell? ⟨ab, 0, none⟩ = some (.slice none 0 0) := by unfold World.cell?; rw [hak]; rfl
  have q1 : wr.cell? ⟨ab, 1, none⟩ = some (.slice none 0 0) := by unfold World.cell?; rw [hak]; rfl
  have q2 : wr.frozen? ⟨ab, 0, none⟩ = false := by unfold World.frozen?; rw [hak]; rfl
  have q3 : wr.frozen? ⟨ab, 1, none⟩ = false := by unfold World.frozen?; rw [hak]; rfl
  obtain ⟨Ap, cp, hPv⟩ := Kd.R_slice HST.out.rh
  obtain ⟨Aq, cq, hQv⟩ := Kd.R_slice HST.out.rr
  subst hPv hQv
  clear hbk hak
  refine wpIn_seq ?_
  refine wpIn_region_k (fun _ => trivial) rfl wideC HF fun K hK => ?_
  iterate 2 (refine OpsK.step rfl rfl rfl ?_; go_simp)
  refine OpsK.nil (hK _ _ fun a9 hf' => ?_)
  clear hK K HF
  have HF : Fr 85 [] [(0, .slice A0 l0.length c0), (1, .int .i64 ed), (6, .pointer (some ⟨ab, 0, none⟩)), (7, .map (some r)), (9, .pointer (some ⟨mb, 0, none⟩))] a9 := hf'.sub ⟨rfl, rfl, rfl, rfl, rfl, trivial⟩
  clear hf'
  have hab2 : wr.heap[ab]? = some (.cells #[.slice none 0 0, .slice none 0 0] 80 (0, 0)) := HST.out.abk
  have t1 := (two_set hab2 (.slice Ap (heldOf (l0.map toC) facts o).length cp)).1
  have t2 := (two_set t1 (.slice Aq (ints o).length cq)).2
  have hmv : ∀ (k : Nat) (cs : Array Value) (t : Nat), wr.heap[k]? = some (Obj.cells cs t (0, 0)) → t ≠ 80 → ((wr.setCell ⟨ab, 0, none⟩ (.slice Ap (heldOf (l0.map toC) facts o).length cp)).setCell ⟨ab, 1, none⟩ (.slice Aq (ints o).length cq)).heap[k]? = wr.heap[k]? := fun k cs t hk ht => by
   have hk' : k ≠ ab := by
    rintro rfl
    rw [hab2] at hk
    cases hk
    exact ht rfl
   rw [Below.heap_setCell _ _ _ _ (by show k ≠ ab; exact hk'), Below.heap_setCell _ _ _ _ (by show k ≠ ab; exact hk')]
  refine wpIn_ret ?_
  refine bodyPost_ret (results_c80 HF rfl rfl t2) HF.defs ?_
  exact ⟨_, _, rfl, HST.out.rh.move fun k cs hk _ => hmv k cs 9 hk (by decide), HST.out.rr.move fun k cs hk _ => hmv k cs 3 hk (by decide), (HST.out.below.setCell habw _).setCell habw _⟩
theorem besomref09_make1.calls (A0 : Option Addr) (c0 : Nat) (l0 : List S25) (a1 : Int) (A2 : Option Addr) (c2 : Nat) (l2 : List ByteArray) (r1 : List ByteArray) (r2 : List Int) (w : World) (hr0 : Kd.C k25 w A0 l0.length l0) (_hc0 : l0.length ≤ c0) (hr2 : Kd.C Kd.string w A2 l2.length l2) (_hc2 : l2.length ≤ c2) (h : besomref09_make1.f l0 a1 l2 = some (r1, r2)) :
  Calls Tryz.prog 55 #[.slice A0 l0.length c0, .int .i64 a1, .slice A2 l2.length c2] w fun e w' => ∃ v0_ v1_ : Value, e = .returned (.agg #[v0_, v1_]) ∧ Kd.R Kd.string 9 w' w.heap.size (fun _ => True) v0_ r1 ∧ Kd.R (Kd.int .i64) 3 w' w.heap.size (fun _ => True) v1_ r2 ∧ Below w.heap.size w w' := by
 unfold besomref09_make1.f at h
 split at h
 case isFalse => cases h
 rename_i hlen
 cases hlv : Prot.levels (l0.map toC) with
 | none => rw [hlv] at h; cases h
 | some m =>
  rw [hlv] at h
  simp only [Option.some.injEq, Prod.mk.injEq] at h
  obtain ⟨rfl, rfl⟩ := h
  refine (make_calls A0 c0 l0 a1 A2 c2 l2 m w hr0 hlen.1 hlen.2 hr2 hlv).mono ?_
  rintro e w' ⟨Hv, Rv, rfl, h1, h2, hb⟩
  exact ⟨Hv, Rv, rfl, h1, h2, hb⟩
end
section
open Prot (heldOf roundL roundP addL addOne mkLevel mkLevels at_ firesB Good Fits)
attribute [local go_sem] slk sget sput uponK_value uponK_skip uponK_enter
def besomref09_Check.f (l0 : List S25) : Option (Int × Int) := some ((errOf (boundOf l0)).getD (-1, 0))
theorem bound_of (l0 : List S25) : boundOf l0 = if 64 < l0.length then .error (-1, 3) else match firstBad l0 0 with
  | some i => .error ((i : Nat), 2)
  | none => match Prot.levels (l0.map toC) with
   | none => .error (-1, 9)
   | some m => .ok m := rfl
set_option maxRecDepth 100000 in
set_option maxHeartbeats 4000000 in
theorem check_ref (A0 : Option Addr) (c0 : Nat) (l0 : List S25) (w : World) (hr0 : Kd.C k25 w A0 l0.length l0) : Calls Tryz.prog 13 #[.slice A0 l0.length c0] w fun e w' => e = .returned (.tuple #[.int .i64 ((errOf (boundOf l0)).getD (-1, 0)).1, .int .i64 ((errOf (boundOf l0)).getD (-1, 0)).2]) ∧ Below w.heap.size w w' := by
 have hu25 := Tryz.underlying25
 have HR := Aside0.mk hr0
 have hbd := bound_of l0
 have HBD := Aside0.mk hbd
 have HLC := Aside0.mk (levels_calls A0 c0 l0)
 have h63 := hr0.2.1
 clear hr0 hbd
 refine callsK (args := [.slice A0 l0.length c0]) Tryz.func13 rfl Tryz.ntmps13 (by simp) fun a HF0 => ?_
 have HF : Fr 30 [] [(0, .slice A0 l0.length c0)] a := HF0
 clear HF0
 refine wpIn_seq ?_
 refine wpIn_region_k (fun _ => trivial) rfl wideC HF fun K hK => ?_
 iterate 2 (refine OpsK.step rfl rfl rfl ?_; go_simp)
 refine OpsK.nil (hK _ _ fun a' hf' => ?_)
 clear hK K HF
 have HF : Fr 30 [] [(0, .slice A0 l0.length c0)] a' := hf'.sub ⟨rfl, trivial⟩
 clear hf'
 refine wpIn_seq (wpIn_seq ?_)
 by_cases h64 : 64 < l0.length
 ·have h64' : (64 : Int) < ((l0.length : Nat) : Int) := by omega
  have hb : boundOf l0 = .error (-1, 3) := by rw [HBD.out, if_pos h64]
  have HB := Aside0.mk hb
  clear hb h64
  refine wpIn_region_k (fun _ => trivial) rfl wideC HF fun K hK => ?_
  iterate 3 (refine OpsK.step rfl rfl rfl ?_; go_simp)
  refine OpsK.nil (hK _ _ fun a' hf' => ?_)
  clear hK K HF
  have HF : Fr 30 [] [(9, .bool true)] a' := hf'.sub ⟨rfl, trivial⟩
  clear hf'
  refine wpIn_cond_true (HF.tmp rfl) (wpIn_seq ?_)
  refine wpIn_region_k (fun _ => trivial) rfl wideC HF fun K hK => ?_
  iterate 2 (refine OpsK.step rfl rfl rfl ?_; go_simp)
  refine OpsK.nil (hK _ _ fun a9 hf' => ?_)
  clear hK K HF
  have HF : Fr 30 [] [(2, .int .i64 (-1)), (3, .int .i64 3)] a9 := hf'.sub ⟨rfl, rfl, trivial⟩
  clear hf'
  refine wpIn_ret ?_
  try simp only [Exit.then, Exit.inBlock, ↓reduceIte]
  exact HF.ret2 rfl rfl rfl ⟨by rw [HB.out]; rfl, Below.refl _ _⟩
 ·have h64' : ¬ (64 : Int) < ((l0.length : Nat) : Int) := by omega
  have hb := HBD.out
  rw [if_neg h64] at hb
  have HB := Aside0.mk hb
  have HLN : Aside0 (l0.length ≤ 64) := ⟨by omega⟩
  clear hb
  refine wpIn_region_k (fun _ => trivial) rfl wideC HF fun K hK => ?_
  iterate 3 (refine OpsK.step rfl rfl rfl ?_; go_simp)
  refine OpsK.nil (hK _ _ fun a' hf' => ?_)
  clear hK K HF
  have HF : Fr 30 [] [(0, .slice A0 l0.length c0), (9, .bool false)] a' := hf'.sub ⟨rfl, rfl, trivial⟩
  clear hf'
  clear h64'
  refine wpIn_cond_false (HF.tmp rfl) (wpIn_skip ?_)
  refine wpIn_seq ?_
  refine wpIn_seq ?_
  refine wpIn_region_k (fun _ => trivial) rfl wideC HF fun K hK => ?_
  refine OpsK.step rfl rfl rfl ?_
  go_simp
  refine OpsK.nil (hK _ _ fun a' hf' => ?_)
  clear hK K HF
  have HF : Fr 30 [] [(0, .slice A0 l0.length c0), (4, .int .i64 0)] a' := hf'.sub ⟨rfl, rfl, trivial⟩
  clear hf'
  refine wpIn_block (wpIn_loop (fun a wr => ∃ j : Nat, j ≤ l0.length ∧ Fr 30 [] [(0, .slice A0 l0.length c0), (4, .int .i64 (j : Nat))] a ∧ firstBad l0 0 = firstBad (l0.drop j) j ∧ Below w.heap.size w wr)
   (fun a _ => l0.length - (intOf (a.eval (.tmp 4))).toNat) ⟨0, Nat.zero_le _, HF, rfl, Below.refl _ _⟩ ?_)
  clear HF
  rintro a wr ⟨j, hj, HF, hfb, hbw⟩
  have hmu : l0.length - (intOf (a.eval (.tmp 4))).toNat = l0.length - j := by rw [HF.tmp (k := 4) rfl]; simp [intOf]
  rw [hmu]
  clear hmu
  have HFB := Aside0.mk hfb
  have HBW := Aside0.mk hbw
  clear hfb hbw
  refine wpIn_seq (wpIn_seq ?_)
  by_cases hjl : j < l0.length
  ·have hlt : ((j : Nat) : Int) < ((l0.length : Nat) : Int) := by omega
   have hr0r := Kd.C_below HR.out HBW.out
   obtain ⟨ad, A3, c3, A4, c4, hA0, x0, x1, x2, x3, x4, x5, l3, g3, l4, g4⟩ := at_T25 hr0r (j : Int) (by omega) (by omega)
   simp only [Int.toNat_natCast] at x0 x1 x2 x3 x4 x5
   have hyes := firstBad_yes l0 j hjl
   have hno := firstBad_no l0 j hjl
   obtain ⟨x, hx⟩ : ∃ x, x = rd_T25 l0 (j : Int) := ⟨_, rfl⟩
   rw [← hx] at x0 x1 x2 x3 x4 x5 l3 g3 l4 g4 hyes hno
   have HCK := Aside0.mk (chk_any x A3 c3 A4 c4 wr g3 l3 g4 l4)
   have HYES := Aside0.mk hyes
   have HNO := Aside0.mk hno
   have HWJ := Aside0.mk (wrapJ (j := j) (by omega))
   have HAA := Aside0.mk hA0
   rw [hA0] at HF
   clear hyes hno hx g3 g4 l3 l4 hr0r hA0
   refine wpIn_region_k (fun _ => trivial) rfl wideC HF fun K hK => ?_
   iterate 4 (refine OpsK.step rfl rfl rfl ?_; go_simp)
   refine OpsK.nil (hK _ _ fun a' hf' => ?_)
   clear hK K HF
   have HF : Fr 30 [] [(0, .slice (some ad) l0.length c0), (4, .int .i64 (j : Nat)), (13, .bool true)] a' := hf'.sub ⟨rfl, rfl, rfl, trivial⟩
   clear hf'
   refine wpIn_cond_true (HF.tmp rfl) (wpIn_skip ?_)
   show Code.wpIn _ _ _ (Code.seq _ _) _ _ _
   refine wpIn_seq (wpIn_block (wpIn_seq ?_))
   obtain ⟨ok, hok⟩ : ∃ ok, ok = okC x := ⟨_, rfl⟩
   have HOK := Aside0.mk hok
   clear hok
   refine wpIn_region_k (fun _ => trivial) rfl wideC HF fun K hK => ?_
   iterate 5 (refine OpsK.step rfl rfl rfl ?_; go_simp)
   refine HCK.out.mono ?_
   rintro e w2 ⟨rfl, hb2⟩
   rw [← HOK.out]
   dsimp only
   refine OpsK.step rfl rfl rfl ?_
   go_simp
   refine OpsK.nil (hK _ _ fun a' hf' => ?_)
   clear hK K HF
   have HF : Fr 30 [] [(0, .slice (some ad) l0.length c0), (4, .int .i64 (j : Nat)), (21, .bool (!ok))] a' := hf'.sub ⟨rfl, rfl, rfl, trivial⟩
   clear hf'
   have HB2 := Aside0.mk (below_then HBW.out HBW.out.size hb2)
   clear hb2 x0 x1 x2 x3 x4 x5
   cases ok with
   | false =>
    have hbb : boundOf l0 = .error ((j : Nat), 2) := by
     have h := HB.out
     rw [HFB.out, HNO.out HOK.out.symm] at h
     exact h
    have HBB := Aside0.mk hbb
    clear hbb
    refine wpIn_cond_true (HF.tmp rfl) (wpIn_seq ?_)
    refine wpIn_region_k (fun _ => trivial) rfl wideC HF fun K hK => ?_
    iterate 3 (refine OpsK.step rfl rfl rfl ?_; go_simp)
    refine OpsK.nil (hK _ _ fun a9 hf' => ?_)
    clear hK K HF
    have HF : Fr 30 [] [(2, .int .i64 (j : Nat)), (3, .int .i64 2)] a9 := hf'.sub ⟨rfl, rfl, trivial⟩
    clear hf'
    refine wpIn_ret ?_
    try simp only [Exit.then, Exit.inBlock, ↓reduceIte]
    exact HF.ret2 rfl rfl rfl ⟨by rw [HBB.out]; rfl, HB2.out⟩
   | true =>
    refine wpIn_cond_false (HF.tmp rfl) (wpIn_skip ?_)
    show Code.wpIn _ _ _ (Code.region 5 _ _) _ _ _
    refine wpIn_region_k (fun _ => trivial) rfl wideC HF fun K hK => ?_
    iterate 3 (refine OpsK.step rfl rfl rfl ?_; go_simp)
    refine OpsK.nil (hK _ _ fun a3 hf' => ?_)
    clear hK K HF
    rw [HWJ.out] at hf'
    have HF : Fr 30 [] [(0, .slice (some ad) l0.length c0), (4, .int .i64 ((j + 1 : Nat) : Int))] a3 := hf'.sub ⟨rfl, rfl, trivial⟩
    clear hf'
    rw [← HAA.out] at HF
    refine ⟨⟨j + 1, by omega, HF, HFB.out.trans (HYES.out HOK.out.symm), HB2.out⟩, ?_⟩
    rw [HF.tmp (k := 4) rfl]
    simp only [intOf]
    omega
  ·obtain rfl : j = l0.length := by omega
   have hnlt : ¬ ((l0.length : Nat) : Int) < ((l0.length : Nat) : Int) := by omega
   have hb2 := HB.out
   rw [HFB.out, List.drop_length] at hb2
   have hb3 : boundOf l0 = match Prot.levels (l0.map toC) with
    | none => .error (-1, 9)
    | some m => .ok m := hb2
   have HB3 := Aside0.mk hb3
   clear hb2 hb3
   refine wpIn_region_k (fun _ => trivial) rfl wideC HF fun K hK => ?_
   iterate 4 (refine OpsK.step rfl rfl rfl ?_; go_simp)
   refine OpsK.nil (hK _ _ fun a' hf' => ?_)
   clear hK K HF
   have HF : Fr 30 [] [(0, .slice A0 l0.length c0), (13, .bool false)] a' := hf'.sub ⟨rfl, rfl, trivial⟩
   clear hf'
   refine wpIn_cond_false (HF.tmp rfl) (wpIn_exit ?_)
   simp only [Exit.then, Exit.inBlock, ↓reduceIte]
   clear hnlt
   refine wpIn_seq ?_
   refine wpIn_region_k (fun _ => trivial) rfl wideC HF fun K hK => ?_
   iterate 2 (refine OpsK.step rfl rfl rfl ?_; go_simp)
   refine (HLC.out wr (Kd.C_below HR.out HBW.out) HLN.out).mono ?_
   rintro e w2 ⟨hb2, he⟩
   have HB2 := Aside0.mk (below_then HBW.out HBW.out.size hb2)
   clear hb2
   cases hlv : Prot.levels (l0.map toC) with
   | none =>
    rw [hlv] at he
    subst he
    have hbb := HB3.out
    rw [hlv] at hbb
    have HBB := Aside0.mk hbb
    clear hbb hlv
    dsimp only
    iterate 5 (refine OpsK.step rfl rfl rfl ?_; go_simp)
    refine OpsK.nil (hK _ _ fun a' hf' => ?_)
    clear hK K HF
    have HF : Fr 30 [] [(6, .bool false)] a' := hf'.sub ⟨rfl, trivial⟩
    clear hf'
    refine wpIn_seq (wpIn_seq ?_)
    refine wpIn_region_k (fun _ => trivial) rfl wideC HF fun K hK => ?_
    iterate 2 (refine OpsK.step rfl rfl rfl ?_; go_simp)
    refine OpsK.nil (hK _ _ fun a' hf' => ?_)
    clear hK K HF
    have HF : Fr 30 [] [(29, .bool true)] a' := hf'.sub ⟨rfl, trivial⟩
    clear hf'
    refine wpIn_cond_true (HF.tmp rfl) (wpIn_seq ?_)
    refine wpIn_region_k (fun _ => trivial) rfl wideC HF fun K hK => ?_
    iterate 2 (refine OpsK.step rfl rfl rfl ?_; go_simp)
    refine OpsK.nil (hK _ _ fun a9 hf' => ?_)
    clear hK K HF
    have HF : Fr 30 [] [(2, .int .i64 (-1)), (3, .int .i64 9)] a9 := hf'.sub ⟨rfl, rfl, trivial⟩
    clear hf'
    refine wpIn_ret ?_
    try simp only [Exit.then, Exit.inBlock, ↓reduceIte]
    exact HF.ret2 rfl rfl rfl ⟨by rw [HBB.out]; rfl, HB2.out⟩
   | some m =>
    rw [hlv] at he
    obtain ⟨r, rfl, _, _⟩ := he
    have hbb := HB3.out
    rw [hlv] at hbb
    have HBB := Aside0.mk hbb
    clear hbb hlv
    dsimp only
    iterate 5 (refine OpsK.step rfl rfl rfl ?_; go_simp)
    refine OpsK.nil (hK _ _ fun a' hf' => ?_)
    clear hK K HF
    have HF : Fr 30 [] [(6, .bool true)] a' := hf'.sub ⟨rfl, trivial⟩
    clear hf'
    refine wpIn_seq (wpIn_seq ?_)
    refine wpIn_region_k (fun _ => trivial) rfl wideC HF fun K hK => ?_
    iterate 2 (refine OpsK.step rfl rfl rfl ?_; go_simp)
    refine OpsK.nil (hK _ _ fun a' hf' => ?_)
    clear hK K HF
    have HF : Fr 30 [] [(29, .bool false)] a' := hf'.sub ⟨rfl, trivial⟩
    clear hf'
    refine wpIn_cond_false (HF.tmp rfl) (wpIn_skip ?_)
    refine wpIn_seq ?_
    refine wpIn_region_k (fun _ => trivial) rfl wideC HF fun K hK => ?_
    iterate 2 (refine OpsK.step rfl rfl rfl ?_; go_simp)
    refine OpsK.nil (hK _ _ fun a9 hf' => ?_)
    clear hK K HF
    have HF : Fr 30 [] [(2, .int .i64 (-1)), (3, .int .i64 0)] a9 := hf'.sub ⟨rfl, rfl, trivial⟩
    clear hf'
    refine wpIn_ret ?_
    try simp only [Exit.then, Exit.inBlock, ↓reduceIte]
    exact HF.ret2 rfl rfl rfl ⟨by rw [HBB.out]; rfl, HB2.out⟩
theorem besomref09_Check.calls (A0 : Option Addr) (c0 : Nat) (l0 : List S25) (r1 r2 : Int) (w : World) (hr0 : Kd.C k25 w A0 l0.length l0) (_hc0 : l0.length ≤ c0) (h : besomref09_Check.f l0 = some (r1, r2)) :
  Calls Tryz.prog 13 #[.slice A0 l0.length c0] w fun e w' => e = .returned (.tuple #[.int .i64 r1, .int .i64 r2]) ∧ Below w.heap.size w w' := by
 have := check_ref A0 c0 l0 w hr0
 unfold besomref09_Check.f at h
 rw [Option.some.inj h] at this
 exact this
theorem bound_err {l0 : List S25} {p : Int × Int} (h : boundOf l0 = .error p) : p.2 ≠ 0 := by
 rw [bound_of] at h
 split at h
 ·cases h; decide
 ·split at h
  ·cases h; show (2 : Int) ≠ 0; decide
  ·split at h
   ·cases h; decide
   ·cases h
theorem field80_0 (u v : Value) (w : World) : (Instr.field 80 (.agg #[u, v]) 0).run Tryz.prog w = .ok u w := by kernel_rfl
theorem field80_1 (u v : Value) (w : World) : (Instr.field 80 (.agg #[u, v]) 1).run Tryz.prog w = .ok v w := by kernel_rfl
end
end Go.Proofs.YtlhkeohcickiaaaGreatDoor.E

