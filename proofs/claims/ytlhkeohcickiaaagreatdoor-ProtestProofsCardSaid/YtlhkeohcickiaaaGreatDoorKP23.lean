/- Part 23 of 36 of the proof of ProtestProofs: lemmas, without conditions. -/
import Derived.Test.YtlhkeohcickiaaaGreatDoorKP22
import Derived.RangeFuncNested
import Derived.RangeFuncWrites
import Derived.Sort.LoopGhostIn
import Derived.BigFrameIn
import Derived.BigGuardIn
import Derived.BigGuardPartIn
import Derived.Test.YtlhkeohcickiaaaGreatDoorKP19
import Derived.Laws.EntriesVeiled
import Derived.Shelf.SlMaps.Clone
import Derived.Shelf.Slices.Clone
import Derived.Shelf.Strings.BuilderF
import Derived.Shelf.Strings.OnBuilder
import Derived.Test.YtlhkeohcickiaaaGreatDoorProg
set_option linter.all false
namespace Go.Proofs.YtlhkeohcickiaaaGreatDoor.E
open Go.RowKit Go.Proofs.YtlhkeohcickiaaaGreatDoor.H Go.Proofs.YtlhkeohcickiaaaGreatDoorW.PrintWords Go.Proofs.YtlhkeohcickiaaaGreatDoorW.PrintLast Go.Proofs.YtlhkeohcickiaaaGreatDoorW.PrintMore
section
open Prot (heldOf roundL roundP addL addOne mkLevel mkLevels at_ firesB Good Fits)
def madeOf (m : List (ByteArray × Nat)) (l0 : List S25) (ed : Int) (facts : List ByteArray) : Except (Int × Int) (List Nat) :=
 if decide (0 ≤ ed) && decide (ed ≤ 1000) && risingB facts 64 then .ok (Prot.made (Prot.get m) (topOf m) ed (l0.map toC) facts) else .error (-1, 2)
def MadePost (w : World) (b r : Nat) (A0 : Option Addr) (c0 : Nat) (l0 : List S25) (m : List (ByteArray × Nat)) (ed : Int) (facts : List ByteArray) (e : Ending) (W : World) : Prop :=
 Below w.heap.size w W ∧ match madeOf m l0 ed facts with
  | .error (x, y) => e = refused x y
  | .ok o => ∃ wb h g rr OV, e = .returned (.pointer (some ⟨wb, 0, none⟩)) ∧ WAt W wb b r h g rr (.slice A0 l0.length c0) m (topOf m) ed (setOf (heldOf (l0.map toC) facts o)) (setOf facts) (reasonsOf (l0.map toC) o) OV ∧
    Kd.R (Kd.int .i64) 3 W w.heap.size (fun _ => True) OV (ints o)
set_option maxHeartbeats 4000000 in
set_option maxRecDepth 100000 in
theorem made_calls (b r : Nat) (A0 : Option Addr) (c0 : Nat) (l0 : List S25) (m : List (ByteArray × Nat)) (ed : Int) (A2 : Option Addr) (c2 : Nat) (facts : List ByteArray) (w : World)
  (hbk : BookAt w b r (.slice A0 l0.length c0) m (topOf m)) (hr0 : Kd.C k25 w A0 l0.length l0) (hc0 : l0.length ≤ c0) (hlen : l0.length ≤ 64) (hfit : Fits (Prot.get m) (l0.map toC)) (htop : ∀ c ∈ l0.map toC, Prot.get m c.thn ≤ topOf m) (ht64 : topOf m ≤ 64)
  (hr2 : Kd.C Kd.string w A2 facts.length facts) (hc2 : facts.length ≤ c2) :
  Calls Tryz.prog 52 #[.pointer (some ⟨b, 0, none⟩), .int .i64 ed, .slice A2 facts.length c2] w (MadePost w b r A0 c0 l0 m ed facts) := by
 have hlf := hr2.2.1
 have HBK := Aside0.mk hbk
 have HR0 := Aside0.mk hr0
 have HR2 := Aside0.mk hr2
 have HFIT := Aside0.mk hfit
 have HTOP := Aside0.mk htop
 clear hbk hr0 hr2 hfit htop
 refine (callsIn_wide (n := 8)).1 (callsIn_of_wp_marks Tryz.func52 rfl trivial ((wpIn_wide).2 ?_))
 simp only [Tryz.ntmps52, List.size_toArray, List.length_cons, List.length_nil, Nat.reduceAdd, Nat.reduceSub, Array.replicate_succ, Array.replicate_zero, List.push_toArray, List.append_toArray, List.nil_append, List.cons_append]
 cases h1 : (decide (0 ≤ ed) && decide (ed ≤ 1000)) with
 | false =>
  have hm : madeOf m l0 ed facts = .error (-1, 2) := by unfold madeOf; rw [h1]; rfl
  have HM := Aside0.mk hm
  have H1 := Aside0.mk h1
  clear hm h1
  go_wp2_with (first | (go_at_call 48; (with_reducible refine (within_any _ _ _ _).mono ?_); rintro e w1 ⟨rfl, hb1⟩; rw [H1.out]) | (go_at_call 42; (with_reducible refine (need_false _ _ _).mono ?_); rintro e w' ⟨rfl, rfl⟩))
  exact ⟨hb1, by rw [HM.out]; rfl⟩
 | true =>
  cases h2 : risingB facts 64 with
  | false =>
   have hm : madeOf m l0 ed facts = .error (-1, 2) := by unfold madeOf; rw [h1, h2]; rfl
   have HM := Aside0.mk hm
   have H1 := Aside0.mk h1
   have H2 := Aside0.mk h2
   clear hm h1 h2
   go_wp2_with (first | (go_at_call 48; (with_reducible refine (within_any _ _ _ _).mono ?_); rintro e w1 ⟨rfl, hb1⟩; rw [H1.out]) | (go_at_call 45; (with_reducible refine (rising_any _ _ _ _ _ hlf (Kd.C_below HR2.out hb1) hc2).mono ?_); rintro e w2 ⟨rfl, hb2⟩; rw [H2.out]) | (go_at_call 42; (with_reducible refine (need_false _ _ _).mono ?_); rintro e w' ⟨rfl, rfl⟩))
   exact ⟨below_then hb1 hb1.size hb2, by rw [HM.out]; rfl⟩
  | true =>
   have hm : madeOf m l0 ed facts = .ok (Prot.made (Prot.get m) (topOf m) ed (l0.map toC) facts) := by unfold madeOf; rw [h1, h2]; rfl
   have HM := Aside0.mk hm
   have H1 := Aside0.mk h1
   have H2 := Aside0.mk h2
   clear hm h1 h2
   go_wp2_with (first | (go_at_call 48; (with_reducible refine (within_any _ _ _ _).mono ?_); rintro e w1 ⟨rfl, hb1⟩; rw [H1.out]) | (go_at_call 45; (with_reducible refine (rising_any _ _ _ _ _ hlf (Kd.C_below HR2.out hb1) hc2).mono ?_); rintro e w2 ⟨rfl, hb2⟩; rw [H2.out]) | (go_at_call 42; (with_reducible refine (need_true _ _ _).mono ?_); rintro e w' ⟨rfl, rfl⟩) | (go_at_call 46; fail))
   have hb12 : Below w.heap.size w w2 := below_then hb1 hb1.size hb2
   refine (of_calls A2 c2 facts w2 (Kd.C_below HR2.out hb12) hc2).mono ?_
   rintro e w3 ⟨h, rfl, hm3, hh3, hb3⟩
   have hb13 : Below w.heap.size w w3 := below_then hb12 hb12.size hb3
   go_wp2_with (first | (go_at_call 46; fail))
   refine (of_calls A2 c2 facts w3 (Kd.C_below HR2.out hb13) hc2).mono ?_
   rintro e w4 ⟨g, rfl, hm4, hg4, hb4⟩
   have hb14 : Below w.heap.size w w4 := below_then hb13 hb13.size hb4
   have HM3 := Aside0.mk (hm3.below hb4 hm3.lt)
   have HM4 := Aside0.mk hm4
   have hlt3 := hm3.lt
   have hlt4 := hm4.lt
   have HB14 := Aside0.mk hb14
   have hs12 := hb12.size
   have hs4 := hb4.size
   have hs3 := hb3.size
   clear hm3 hm4 hb1 hb2 hb12 hb3 hb13 hb4 hb14
   have hmk : ∀ W, (Instr.makeMap 62 none).run Tryz.prog W = .ok (.map (some W.heap.size)) (W.alloc (.map #[] 0)) := fun W => by rfl
   have hbk4 := HBK.out.below HB14.out
   have hbl := hbk4.lt
   obtain ⟨q0, q1, q2, q3⟩ := hbk4.cell
   have HBK4 := Aside0.mk hbk4
   clear hbk4
   have hL := (((Laid.nil w4).snoc (.map #[] 0)).snoc (.cells #[.pointer (some ⟨b, 0, none⟩), .int .i64 ed, .map (some h), .map (some g), .map (some w4.heap.size), .slice none 0 0] 83)).snoc (.cells #[.pointer (some ⟨w4.heap.size + 1, 0, none⟩)] 75)
   have hq2 : (((w4.alloc (.map #[] 0)).alloc (.cells #[.pointer (some ⟨b, 0, none⟩), .int .i64 ed, .map (some h), .map (some g), .map (some w4.heap.size), .slice none 0 0] 83)).alloc (.cells #[.pointer (some ⟨w4.heap.size + 1, 0, none⟩)] 75)).cell? ⟨b, 2, none⟩ = some (.int .i64 (topOf m : Nat)) := by rw [hL.below.cell hbl.1]; exact q2
   have HL := Aside0.mk hL
   clear hL q0 q1 q2 q3
   go_wp2_with fail
   have hL := HL.out
   have hL0 := hL.at_ 0 (by simp)
   have hL1 := hL.at_ 1 (by simp)
   have hL2 := hL.at_ 2 (by simp)
   have hLs := hL.size
   have hLb := hL.below
   clear hL HL hq2
   generalize (((w4.alloc (.map #[] 0)).alloc (.cells #[.pointer (some ⟨b, 0, none⟩), .int .i64 ed, .map (some h), .map (some g), .map (some w4.heap.size), .slice none 0 0] 83)).alloc (.cells #[.pointer (some ⟨w4.heap.size + 1, 0, none⟩)] 75)) = W0 at hL0 hL1 hL2 hLs hLb ⊢
   simp only [Nat.add_zero] at hL0
   have hb0 := HBK.out.lt
   obtain ⟨rr, hrr⟩ : ∃ rr, rr = w4.heap.size := ⟨_, rfl⟩
   have hst0 : MSt w b r h g w4.heap.size (w4.heap.size + 1) (w4.heap.size + 1 + 1) A0 c0 l0 m ed facts (fun _ => True) [] W0 := by
    refine ⟨below_then HB14.out HB14.out.size hLb, hL2, .slice none 0 0, ⟨hL1, HBK4.out.below hLb, by rw [heldOf_nil]; exact HM3.out.below hLb (by omega), HM4.out.below hLb hlt4, hL0⟩, Kd.R_nil _ _ _ _ _⟩
   have HST0 := Aside0.mk hst0
   have hmade := (Prot.made_spec (ed := ed) facts HFIT.out HTOP.out).1
   have HMK := Aside0.mk hmade
   clear hst0 hmade hL0 hL1 hL2 hLs hLb
   refine wp_loop (fun a' W' => ∃ (u8 u35 u36 u37 u38 u39 u90 : Value) (k : Nat) (o ds : List Nat), a' = ({ tmps := #[.pointer (some ⟨b, 0, none⟩), .int .i64 ed, .slice A2 facts.length c2, undef, undef, undef, .pointer none, .pointer (some ⟨w4.heap.size + 1 + 1, 0, none⟩), u8, undef, undef, undef, undef, .int .i64 ed, .bool true, .bool true, .slice A2 facts.length c2, .bool true, .bool true, .tuple #[], .pointer (some ⟨b, 0, none⟩), .int .i64 ed, .slice A2 facts.length c2, .map (some h), .slice A2 facts.length c2, .map (some g), .map (some w4.heap.size), .agg #[.pointer (some ⟨b, 0, none⟩), .int .i64 ed, .map (some h), .map (some g), .map (some w4.heap.size), .slice none 0 0], .pointer (some ⟨w4.heap.size + 1, 0, none⟩), .pointer (some ⟨b, 0, none⟩), .pointer (some ⟨b, 0, none⟩), .pointer (some ⟨b, 2, none⟩), .int .i64 (topOf m : Nat), .int .i64 ((topOf m : Nat) + 1), .int .i64 (k : Nat), u35, u36, u37, u38, u39, undef, undef, undef, undef, undef, undef, undef, undef, undef, undef, undef, undef, undef, undef, undef, undef, undef, undef, undef, undef, undef, undef, undef, undef, undef, undef, undef, undef, undef, undef, undef, undef, undef, undef, undef, undef, undef, undef, undef, undef, undef, undef, undef, undef, undef, undef, undef, undef, undef, undef, u90, undef], defers := marks ds } : Act) ∧
     k ≤ topOf m + 1 ∧ Aside0 (MSt w b r h g w4.heap.size (w4.heap.size + 1) (w4.heap.size + 1 + 1) A0 c0 l0 m ed facts (fun _ => True) o W') ∧ Aside0 (Prot.Good (Prot.get m) ed (l0.map toC) facts o ∧ ∀ j ∈ o, Prot.get m (at_ (l0.map toC) j).thn < k) ∧
     Aside0 (mkLevels (Prot.get m) ed (l0.map toC) facts ((l0.map toC).length + 1) (topOf m + 1 - k) k o = some (Prot.made (Prot.get m) (topOf m) ed (l0.map toC) facts)) ∧ Aside0 (Marked ds W') ∧ Aside0 (∀ D ∈ ds, w.heap.size ≤ D))
    (fun a' _ => topOf m + 1 - (intOf (a'.tmps.getD 34 undef)).toNat) ?_ ?_
   ·exact ⟨undef, undef, undef, undef, undef, undef, undef, 0, [], [], rfl, Nat.zero_le _, HST0, ⟨Prot.Good.nil _ _ _ _, by simp⟩, HMK, ⟨fun _ h => absurd h (by simp), List.nodup_nil⟩, ⟨by simp⟩⟩
   ·rintro a' W' ⟨u8, u35, u36, u37, u38, u39, u90, k, o, ds, rfl, hk, HST, HG, HMKk, HMARK, HLOW⟩
    by_cases hlt : k < topOf m + 1
    ·have hst := HST.out
     obtain ⟨hbw, hvb, OV, hwa, hro⟩ := hst
     have hvc := cell_of hvb
     clear HST0 HMK
     have hbw2 : ((k : Nat) : Int) < ((topOf m : Nat) : Int) + 1 := by omega
     go_wp2_with (first | (go_at_call 74; (with_reducible refine (rounds_make _ _ _).mono ?_); rintro e w5 ⟨rfl, rfl⟩))
     have hL := (((Laid.nil W').snoc (.cells #[.pointer (some ⟨w4.heap.size + 1, 0, none⟩)] 75)).snoc (.cells #[.int .i64 (k : Nat)] 3))
     have hL0 := hL.at_ 0 (by simp)
     have hL1 := hL.at_ 1 (by simp)
     have hLs : _ = W'.heap.size + 2 := hL.size
     have hLb := hL.below
     simp only [Nat.add_zero, List.nil_append, List.cons_append, List.getElem?_cons_zero, List.getElem?_cons_succ] at hL0 hL1
     clear hL
     generalize (W'.alloc (.cells #[.pointer (some ⟨w4.heap.size + 1, 0, none⟩)] 75)).alloc (.cells #[.int .i64 (k : Nat)] 3) = W5 at hL0 hL1 hLs hLb ⊢
     generalize hBD : (Code.block 3 _) = BD
     generalize hAS : (Code.region 7 _ _) = AS
     generalize hac : (Act.mk _ (marks ds)) = ac
     have hdef : ac.defers = marks ds := by rw [← hac]
     have h39 : ac.eval (.tmp 39) = .func (.func 94) #[] #[.pointer (some ⟨W'.heap.size, 0, none⟩), .pointer (some ⟨W'.heap.size + 1, 0, none⟩)] := by rw [← hac]; rfl
     refine (wpIn_wide (n := 8)).1 (wpIn_rangeFunc fun fn hfn => ?_)
     obtain ⟨rec, hrec⟩ : ∃ rec : LoopState → Option Code → Loop, rec = fun st pe => { state := st, pending := pe, fn, tmps := ac.tmps, params := #[40], assign := AS, body := BD, defers := W5.heap.size } := ⟨_, rfl⟩
     obtain ⟨W6, hW6⟩ : ∃ W6, (W5.alloc (.deferred (some []))).alloc (.loop (rec .ready none)) = W6 := ⟨_, rfl⟩
     have hD6 : W6.heap[W5.heap.size]? = some (.deferred (some [])) := by rw [← hW6]; exact (Below.heap_alloc _ _ _ (by simp)).trans (World.alloc_heap_new W5 _)
     have hL6 : W6.heap[W5.heap.size + 1]? = some (.loop (rec .ready none)) := by rw [← hW6]; have := World.alloc_heap_new (W5.alloc (.deferred (some []))) (.loop (rec .ready none)); rwa [World.size_alloc] at this
     have hb6 : Below W5.heap.size W5 W6 := by rw [← hW6]; exact ((Below.refl _ W5).alloc (Nat.le_refl _) _).alloc (by simp) _
     have hb56 : Below W'.heap.size W' W6 := below_then hLb (by omega) hb6
     have hml : ∃ o', mkLevel (Prot.get m) ed (l0.map toC) facts k ((l0.map toC).length + 1) o = some o' ∧ mkLevels (Prot.get m) ed (l0.map toC) facts ((l0.map toC).length + 1) (topOf m + 1 - (k + 1)) (k + 1) o' = some (Prot.made (Prot.get m) (topOf m) ed (l0.map toC) facts) := by
      have h := HMKk.out
      rw [show topOf m + 1 - k = (topOf m + 1 - (k + 1)) + 1 by omega] at h
      exact Option.bind_eq_some_iff.1 h
     obtain ⟨o', hml1, hml2⟩ := hml
     have HML1 := Aside0.mk hml1
     have HML2 := Aside0.mk hml2
     clear hml1 hml2 HMKk
     refine ⟨W5.heap.size + 1, [{ target := .collected W5.heap.size, args := #[] }], W6, { target := .fn (.func 94) #[.pointer (some ⟨W'.heap.size, 0, none⟩), .pointer (some ⟨W'.heap.size + 1, 0, none⟩)], args := #[.func (.yield (W5.heap.size + 1)) #[] #[]] }, W6, 94,
      #[.func (.yield (W5.heap.size + 1)) #[] #[], .pointer (some ⟨W'.heap.size, 0, none⟩), .pointer (some ⟨W'.heap.size + 1, 0, none⟩)], W6, ?_, ?_, ?_, ?_, fun _ => by decide, ?_⟩
     ·rw [← hW6, hrec]; exact run_enterLoop_outer _ _ _ _ _
     ·simp only [resolve, h39]
      simp [go_sem]
     ·intro f' hf'; trivial
     ·simp [invoke, go_sem, enters_of Tryz.func94 (by kernel_rfl) rfl]
     ·obtain ⟨I, hIdef⟩ : ∃ I : List Nat → World → Prop, I = fun o W => W.heap[W5.heap.size + 1]? = some (.loop (rec .ready none)) ∧ Marked (W5.heap.size :: ds) W ∧
        MSt w b r h g w4.heap.size (w4.heap.size + 1) (w4.heap.size + 1 + 1) A0 c0 l0 m ed facts (fun i => i ≠ W'.heap.size + 1) o W ∧
        W.heap[W'.heap.size]? = some (.cells #[.pointer (some ⟨w4.heap.size + 1, 0, none⟩)] 75 (0, 0)) ∧ W.heap[W'.heap.size + 1]? = some (.cells #[.int .i64 (k : Nat)] 3 (0, 0)) ∧
        (Prot.Good (Prot.get m) ed (l0.map toC) facts o ∧ ∀ j ∈ o, Prot.get m (at_ (l0.map toC) j).thn ≤ k) := ⟨_, rfl⟩
      have hi0 : I o W6 := by
       rw [hIdef]
       refine ⟨hL6, ⟨?_, ?_⟩, ?_, (hb6.block _ (by omega)).trans hL0, (hb6.block _ (by omega)).trans hL1, HG.out.1, fun j hj => Nat.le_of_lt (HG.out.2 j hj)⟩
       ·intro D hD
        rcases List.mem_cons.1 hD with rfl | hD
        ·exact hD6
        ·have := HMARK.out.1 D hD
         exact (hb56.block _ (Array.getElem?_eq_some_iff.1 this).1).trans this
       ·refine List.nodup_cons.2 ⟨fun hD => ?_, HMARK.out.2⟩
        have := (Array.getElem?_eq_some_iff.1 (HMARK.out.1 _ hD)).1
        omega
       ·refine ⟨below_then hbw hbw.size hb56, (hb56.block _ (Array.getElem?_eq_some_iff.1 hvb).1).trans hvb, OV, hwa.below hb56, ?_⟩
        have := Kd.R_below (Kd.R_bound hro) hb56
        exact Kd.R_mono this fun k hk => by have := hk.2.2.1; omega
      have HI0 := Aside0.mk hi0
      clear hi0
      refine callsIn_wide.2 ((rounds_loop (wb := w4.heap.size + 1) (b := b) (r := r) (h := h) (g := g) (rr := w4.heap.size) (m := m) (ed := ed) (W5.heap.size + 1) W'.heap.size (W'.heap.size + 1) A0 c0 l0 k facts hlen I ?_ ?_ ?_ _ o o' W6 HI0.out HML1.out).mono ?_)
      ·intro o2 W hi
       rw [hIdef] at hi
       obtain ⟨_, _, ⟨hbW, _, OV', hwa', _⟩, hp, hq, _⟩ := hi
       exact ⟨Kd.C_below HR0.out hbW, ⟨_, _, _, hwa'⟩, hp, hq⟩
      ·intro o2 W1 W2 hi hb
       rw [hIdef] at hi ⊢
       obtain ⟨hl, hmk, ⟨hbW, hv, OV', hwa', hr'⟩, hp, hq, hgd⟩ := hi
       refine ⟨(hb.block _ (Array.getElem?_eq_some_iff.1 hl).1).trans hl, ⟨fun D hD => (hb.block _ (Array.getElem?_eq_some_iff.1 (hmk.1 D hD)).1).trans (hmk.1 D hD), hmk.2⟩, ⟨below_then hbW hbW.size hb, (hb.block _ (Array.getElem?_eq_some_iff.1 hv).1).trans hv, OV', hwa'.below hb, Kd.R_below hr' hb⟩,
        (hb.block _ (Array.getElem?_eq_some_iff.1 hp).1).trans hp, (hb.block _ (Array.getElem?_eq_some_iff.1 hq).1).trans hq, hgd⟩
      ·intro o2 wx W A c l hi hbx hbase hl hne hrd hcap
       have hi2 := hi
       rw [hIdef] at hi2
       obtain ⟨hlr, hmk, ⟨hbX, hvX, OV', hwaX, hrX⟩, hpX, hqX, hgd⟩ := hi2
       have hlW := (hbx.block _ (Array.getElem?_eq_some_iff.1 hlr).1).trans hlr
       have hy := run_yield (P := Tryz.prog) (args := #[.slice A (ints l).length c]) hlW (by rw [hrec]; rfl)
       have hbeg := run_beginRound (P := Tryz.prog) hlW (by rw [hrec])
       obtain ⟨W1, hW1⟩ : ∃ W1, W1 = W.putObj (W5.heap.size + 1) (.loop { rec .ready none with state := .busy }) := ⟨_, rfl⟩
       rw [← hW1] at hbeg
       have hoth : ∀ j, j ≠ W5.heap.size + 1 → W1.heap[j]? = W.heap[j]? := fun j hj => by rw [hW1]; exact World.putObj_heap_other hj
       have hl1 : W1.heap[W5.heap.size + 1]? = some (.loop { rec .ready none with state := .busy }) := by rw [hW1]; exact World.putObj_heap_same (Array.getElem?_eq_some_iff.1 hlW).1
       have hsz1 : W1.heap.size = W.heap.size := by rw [hW1]; exact World.putObj_size
       have hmv : ∀ {j : Nat} {ob : Obj}, W.heap[j]? = some ob → (∀ r', ob ≠ .loop r') → W1.heap[j]? = some ob := fun {j ob} hj hn => by
        rw [hoth j (fun e => by subst e; rw [hlW] at hj; exact hn _ (Option.some.inj hj).symm)]; exact hj
       have hmx : ∀ {j : Nat} {ob : Obj}, wx.heap[j]? = some ob → (∀ r', ob ≠ .loop r') → W1.heap[j]? = some ob := fun {j ob} hj hn => hmv ((hbx.block _ (Array.getElem?_eq_some_iff.1 hj).1).trans hj) hn
       have hb1 : Below w.heap.size w W1 := by
        have h := below_then hbX hbX.size hbx
        refine ⟨by rw [hW1]; exact h.os, by rw [hW1]; exact h.tape, by rw [hW1]; exact h.output, by rw [hsz1]; exact h.size, fun j hj => (hoth j (by have := hbw.size; omega)).trans (h.block j hj)⟩
       have hmk1 : Marked (W5.heap.size :: ds) W1 := ⟨fun D hD => hmx (hmk.1 D hD) (fun _ e => by cases e), hmk.2⟩
       have hwa1 : WAt W1 (w4.heap.size + 1) b r h g w4.heap.size (.slice A0 l0.length c0) m (topOf m) ed (setOf (heldOf (l0.map toC) facts o2)) (setOf facts) (reasonsOf (l0.map toC) o2) OV' :=
        ⟨hmx hwaX.blk (fun _ e => by cases e), ⟨hmx hwaX.book.blk (fun _ e => by cases e), hmx hwaX.book.map (fun _ e => by cases e)⟩, hmx hwaX.held (fun _ e => by cases e), hmx hwaX.given (fun _ e => by cases e), hmx hwaX.reasons (fun _ e => by cases e)⟩
       have hr1 : Kd.R (Kd.int .i64) 3 W1 w.heap.size (fun i => i ≠ W'.heap.size + 1 ∧ ∀ a : Addr, A = some a → i ≠ a.block) OV' (ints o2) := by
        refine Kd.R_mono (Kd.R_move (Kd.R_bound hrX) fun i hi => ?_) (fun i hi => ⟨hi.1, fun a e => by have := hbase a e; have := hi.2.2.1; omega⟩)
        obtain ⟨_, _, _, q, _, cells, hcl⟩ := hi
        rw [hcl]
        exact hmx hcl (fun _ e => by cases e)
       have hneA : ∀ a : Addr, A = some a → a.block ≠ W5.heap.size + 1 := by
        intro a e e2
        have hpos : 0 < (ints l).length := by unfold ints; rw [List.length_map]; exact List.length_pos_iff.2 hne
        obtain ⟨ad, e3, hc⟩ := Kd.at_int hrd 0 (Int.le_refl _) (by omega)
        rw [e] at e3
        cases e3
        have e4 : (a.add (0 : Int).toNat).block = W5.heap.size + 1 := e2
        unfold World.cell? at hc
        rw [e4, hlW] at hc
        simp at hc
       obtain ⟨adA, hA⟩ : ∃ adA : Addr, A = some adA := by
        have hpos : 0 < (ints l).length := by rw [ints_len]; exact List.length_pos_iff.2 hne
        obtain ⟨ad, e3, _⟩ := Kd.at_int hrd 0 (Int.le_refl _) (by omega)
        exact ⟨ad, e3⟩
       subst hA
       have hnA := hneA adA rfl
       have hloA := hbase adA rfl
       obtain ⟨ks, hks⟩ : ∃ ks : List Nat, ks = (W5.heap.size + 1) :: W'.heap.size :: (W'.heap.size + 1) :: adA.block :: W5.heap.size :: ds := ⟨_, rfl⟩
       have hbwx : W'.heap.size ≤ wx.heap.size := by have := (Array.getElem?_eq_some_iff.1 hpX).1; omega
       have hlm1 := hwa1.held.lt
       have hcA : ∃ cells t fr, W1.heap[adA.block]? = some (.cells cells t fr) := by
        have hpos : 0 < (ints l).length := by rw [ints_len]; exact List.length_pos_iff.2 hne
        obtain ⟨ad, e3, hc⟩ := Kd.at_int hrd 0 (Int.le_refl _) (by omega)
        cases e3
        rw [hoth _ hnA]
        unfold World.cell? at hc
        rw [addr_add_block] at hc
        split at hc
        ·rename_i cells t fr hcell
         exact ⟨cells, t, fr, hcell⟩
        ·cases hc
       have hst1 : RSt W1 ks w b r h g w4.heap.size (w4.heap.size + 1) (w4.heap.size + 1 + 1) A0 c0 l0 m ed facts o2 W1 := by
        refine ⟨⟨hb1, hmx hvX (fun _ e => by cases e), OV', hwa1, ?_⟩, fun _ _ => rfl, Nat.le_refl _⟩
        refine Kd.R_mono (Kd.R_bound hr1) fun i hi => ?_
        obtain ⟨⟨h1, h2⟩, h3, h4, q, hq, cells, hcl⟩ := hi
        rw [hks]
        simp only [List.mem_cons, not_or]
        refine ⟨fun e => ?_, fun e => ?_, h1, h2 adA rfl, fun e => ?_, fun hD => ?_⟩
        ·subst e; rw [hl1] at hcl; cases hcl
        ·subst e; rw [hmx hpX (fun _ e => by cases e)] at hcl
         injection hcl with hcl
         injection hcl with _ hq2
         subst hq2
         revert hq
         decide
        ·subst e; rw [hmk1.1 _ List.mem_cons_self] at hcl; cases hcl
        ·rw [hmk1.1 _ (List.mem_cons_of_mem _ hD)] at hcl; cases hcl
       have hksW : ∀ k ∈ ks, k ≠ h ∧ k ≠ w4.heap.size ∧ k ≠ w4.heap.size + 1 ∧ k < W1.heap.size := by
        intro k hk
        have hany : ∀ {ob : Obj}, W1.heap[k]? = some ob → (∀ es n, ob ≠ .map es n) → k ≠ h ∧ k ≠ w4.heap.size ∧ k < W1.heap.size := fun {ob} hk hn => by
         refine ⟨fun e => ?_, fun e => ?_, (Array.getElem?_eq_some_iff.1 hk).1⟩
         ·subst e; rw [hwa1.held.out] at hk; exact hn _ _ (Option.some.inj hk).symm
         ·subst e; rw [hwa1.reasons.out] at hk; exact hn _ _ (Option.some.inj hk).symm
        rw [hks] at hk
        simp only [List.mem_cons] at hk
        rcases hk with rfl | rfl | rfl | rfl | rfl | hD
        ·have := hany hl1 (fun _ _ e => by cases e)
         exact ⟨this.1, this.2.1, (fun e => by have h2 := hwa1.blk; rw [← e, hl1] at h2; cases h2), this.2.2⟩
        ·have h3 := hmx hpX (fun _ e => by cases e)
         have := hany h3 (fun _ _ e => by cases e)
         exact ⟨this.1, this.2.1, (fun e => by have h2 := hwa1.blk; rw [← e, h3] at h2; cases h2), this.2.2⟩
        ·have h3 := hmx hqX (fun _ e => by cases e)
         have := hany h3 (fun _ _ e => by cases e)
         exact ⟨this.1, this.2.1, (fun e => by have h2 := hwa1.blk; rw [← e, h3] at h2; cases h2), this.2.2⟩
        ·obtain ⟨cells, t, fr, h3⟩ := hcA
         have := hany h3 (fun _ _ e => by cases e)
         have h4 := (Array.getElem?_eq_some_iff.1 hwaX.blk).1
         exact ⟨this.1, this.2.1, by omega, this.2.2⟩
        ·have h3 := hmk1.1 _ List.mem_cons_self
         have := hany h3 (fun _ _ e => by cases e)
         exact ⟨this.1, this.2.1, (fun e => by have h2 := hwa1.blk; rw [← e, h3] at h2; cases h2), this.2.2⟩
        ·have h3 := hmk1.1 _ (List.mem_cons_of_mem _ hD)
         have := hany h3 (fun _ _ e => by cases e)
         exact ⟨this.1, this.2.1, (fun e => by have h2 := hwa1.blk; rw [← e, h3] at h2; cases h2), this.2.2⟩
       rw [hrec] at hy
       refine ⟨fn, _, AS, BD, hy, fun nn => roundIn_of_wpIn trivial ?_⟩
       have hfin : ∀ w', RSt W1 ks w b r h g w4.heap.size (w4.heap.size + 1) (w4.heap.size + 1 + 1) A0 c0 l0 m ed facts (addL (l0.map toC) facts l o2) w' → ∃ v w'', (Instr.endRound (W5.heap.size + 1) none).run Tryz.prog w' = .ok v w'' ∧ (.returned v : Ending) = .returned (.bool true) ∧ I (addL (l0.map toC) facts l o2) w'' := by
        intro w' hs
        obtain ⟨⟨hb', hv', OV2, hwa2, hr2'⟩, hkp, hszk⟩ := hs
        have kp : ∀ {k : Nat} {ob : Obj}, k ∈ ks → W1.heap[k]? = some ob → w'.heap[k]? = some ob := fun {k ob} hk h1 => (hkp k hk).trans h1
        have hl2 := kp (by rw [hks]; simp) hl1
        have hmk2 : Marked (W5.heap.size :: ds) w' := ⟨fun D hD => kp (by rw [hks]; simp only [List.mem_cons] at hD ⊢; rcases hD with h | h <;> simp [h]) (hmk1.1 D hD), hmk1.2⟩
        have hp2 := kp (by rw [hks]; simp) (hmx hpX (fun _ e => by cases e))
        have hq2 := kp (by rw [hks]; simp) (hmx hqX (fun _ e => by cases e))
        have he := run_endRound (P := Tryz.prog) none hl2
        obtain ⟨W2, hW2⟩ : ∃ W2, W2 = w'.putObj (W5.heap.size + 1) (.loop { { rec .ready none with state := .busy } with state := if (none : Option Code).isNone then .ready else .done, pending := none }) := ⟨_, rfl⟩
        rw [← hW2] at he
        have hoth : ∀ j, j ≠ W5.heap.size + 1 → W2.heap[j]? = w'.heap[j]? := fun j hj => by rw [hW2]; exact World.putObj_heap_other hj
        have hmv : ∀ {j : Nat} {ob : Obj}, w'.heap[j]? = some ob → (∀ r', ob ≠ .loop r') → W2.heap[j]? = some ob := fun {j ob} hj hn => by
         rw [hoth j (fun e => by subst e; rw [hl2] at hj; exact hn _ (Option.some.inj hj).symm)]; exact hj
        have hL2 : W2.heap[W5.heap.size + 1]? = some (.loop (rec .ready none)) := by
         rw [hW2, World.putObj_heap_same (Array.getElem?_eq_some_iff.1 hl2).1, hrec]; rfl
        refine ⟨_, W2, he, rfl, ?_⟩
        rw [hIdef]
        have hgl := addL_prefix HFIT.out hgd.1 hgd.2 hl l.length
        rw [List.take_length] at hgl
        refine ⟨hL2, ⟨fun D hD => hmv (hmk2.1 D hD) (fun _ e => by cases e), hmk2.2⟩, ⟨⟨by rw [hW2]; exact hb'.os, by rw [hW2]; exact hb'.tape, by rw [hW2]; exact hb'.output, by rw [hW2, World.putObj_size]; exact hb'.size, fun j hj => (hoth j (by have := hbw.size; omega)).trans (hb'.block j hj)⟩, hmv hv' (fun _ e => by cases e), OV2,
         ⟨hmv hwa2.blk (fun _ e => by cases e), ⟨hmv hwa2.book.blk (fun _ e => by cases e), hmv hwa2.book.map (fun _ e => by cases e)⟩, hmv hwa2.held (fun _ e => by cases e), hmv hwa2.given (fun _ e => by cases e), hmv hwa2.reasons (fun _ e => by cases e)⟩, ?_⟩, hmv hp2 (fun _ e => by cases e), hmv hq2 (fun _ e => by cases e), hgl⟩
        refine Kd.R_mono (Kd.R_move (Kd.R_bound hr2') fun i hi => ?_) (fun i hi e => hi.1 (by rw [hks, e]; simp))
        obtain ⟨_, _, _, q, _, cells, hcl⟩ := hi
        rw [hcl]
        exact hmv hcl (fun _ e => by cases e)
       have HFIN := Aside0.mk hfin
       have HST1 := Aside0.mk hst1
       have HBEG := Aside0.mk hbeg
       have HLm : Aside0 (∀ i ∈ l, i < l0.length) := ⟨fun i hi => by rw [← hl] at hi; have := (Prot.mem_roundL.1 hi).1; rwa [List.length_map] at this⟩
       have HGL : Aside0 (∀ j, (addL (l0.map toC) facts (l.take j) o2).length ≤ 64) := ⟨fun j => by have := (addL_prefix HFIT.out hgd.1 hgd.2 hl j).1.length_le; rw [List.length_map] at this; omega⟩
       have HRD : Aside0 ((Kd.int .i64).C W1 (some adA) (ints l).length (ints l)) := ⟨by
        refine ⟨hrd.1, hrd.2.1, fun hp => ?_⟩
        obtain ⟨ad, e3, hc⟩ := hrd.2.2 hp
        refine ⟨ad, e3, fun j p hj => ?_⟩
        obtain ⟨cc, h1, h2, h3⟩ := hc j p hj
        cases e3
        exact ⟨cc, h1, h2, fun i u hu => by rw [← h3 i u hu]; exact World.cell?_of_block (by rw [addr_add_block]; exact hoth _ hnA)⟩⟩
       have HKS := Aside0.mk hksW
       have HKA : Aside0 (adA.block ∈ ks) := ⟨by rw [hks]; simp⟩
       have HBD : Aside0 ((Tryz.f52.body.bind rfBody) = some BD) := ⟨by rw [← hBD]; rfl⟩
       have HMP : Aside0 (h ≠ g ∧ h ≠ w4.heap.size ∧ h ≠ r ∧ w4.heap.size ≠ g ∧ w4.heap.size ≠ r) := ⟨by
        have hrl := HBK.out.map.lt
        omega⟩
       have HLW : Aside0 (w.heap.size ≤ h ∧ w.heap.size ≤ w4.heap.size ∧ w.heap.size ≤ w4.heap.size + 1) := ⟨by omega⟩
       clear hneA hfin hst1 hbeg hne hcap hi hlr hmk hbX hvX hwaX hrX hpX hqX hgd hlW hy hoth hl1 hsz1 hmv hmx hb1 hmk1 hwa1 hr1 hrd hbase hbx hW1 hl hdef h39 HI0 hW6 hD6 hL6 hb6 hb56 hvb hwa hro hbw hL0 hL1 hLs hLb HMARK HG HST hvc HML1 HML2 hnA hloA hbwx hlm1 hcA hksW hks hBD hIdef hrec
       subst hac
       subst hAS
       simp only [List.zip_toArray, List.zip_cons_cons, List.zip_nil_right, List.foldl_toArray, List.foldl_toArray', List.foldl_cons, List.foldl_nil, List.setIfInBounds_toArray, List.set_cons_succ, List.set_cons_zero]
       gi_wp2_with (first | (rw [Oper.semAt_eq _ _ _ (fun c h => by cases h)]; go_simp; try go_bits))
       refine ⟨W1, HBEG.out, ?_⟩
       refine made_round BD HBD.out nn (W5.heap.size + 1) _ _ W1 ks w b r h g w4.heap.size (w4.heap.size + 1) (w4.heap.size + 1 + 1) c c0 A0 adA l0 m ed facts l o2 (fr_of rfl rfl ?_) HR0.out HST1.out HLm.out hlen HGL.out HRD.out HKS.out HKA.out HMP.out HLW.out ?_
       ·intro p hp
        simp only [List.mem_cons, List.not_mem_nil, or_false] at hp
        rcases hp with rfl | rfl
        ·rfl
        ·simp only [ints_len]; rfl
       ·intro a' w' hs
        exact HFIN.out w' hs
      ·rintro e W7 ⟨rfl, hi7⟩
       rw [hIdef] at hi7
       obtain ⟨hl, hmk, ⟨hbW, hv, OV', hwa', hr'⟩, hp, hq, hgd⟩ := hi7
       have hend := run_endLoop (P := Tryz.prog) hl (by rw [hrec]; simp)
       have hpe : (rec .ready none).pending = none := by rw [hrec]
       have hoth : ∀ j, j ≠ W5.heap.size + 1 → (W7.putObj (W5.heap.size + 1) (.loop { rec .ready none with state := .exhausted })).heap[j]? = W7.heap[j]? := fun j hj => World.putObj_heap_other hj
       have hos : Below w.heap.size w (W7.putObj (W5.heap.size + 1) (.loop { rec .ready none with state := .exhausted })) :=
        ⟨hbW.os, hbW.tape, hbW.output, by rw [World.putObj_size]; exact hbW.size, fun j hj => (hoth j (by have := hbw.size; omega)).trans (hbW.block j hj)⟩
       have hmv : ∀ {j : Nat} {ob : Obj}, W7.heap[j]? = some ob → (∀ r', ob ≠ .loop r') → (W7.putObj (W5.heap.size + 1) (.loop { rec .ready none with state := .exhausted })).heap[j]? = some ob := fun {j ob} hj hn => by
        rw [hoth j (fun e => by subst e; rw [hl] at hj; exact hn _ (Option.some.inj hj).symm)]; exact hj
       obtain ⟨W8, hW8⟩ : ∃ W8, W8 = W7.putObj (W5.heap.size + 1) (.loop { rec .ready none with state := .exhausted }) := ⟨_, rfl⟩
       rw [← hW8] at hoth hos hmv hend
       rw [hpe] at hend
       refine ⟨none, W8, hend, ?_⟩
       have HMK8 : Aside0 (Marked (W5.heap.size :: ds) W8) := ⟨fun D hD => hmv (hmk.1 D hD) (fun _ e => by cases e), hmk.2⟩
       have hwa8 : WAt W8 (w4.heap.size + 1) b r h g w4.heap.size (.slice A0 l0.length c0) m (topOf m) ed (setOf (heldOf (l0.map toC) facts o')) (setOf facts) (reasonsOf (l0.map toC) o') OV' :=
        ⟨hmv hwa'.blk (fun _ e => by cases e), ⟨hmv hwa'.book.blk (fun _ e => by cases e), hmv hwa'.book.map (fun _ e => by cases e)⟩, hmv hwa'.held (fun _ e => by cases e), hmv hwa'.given (fun _ e => by cases e), hmv hwa'.reasons (fun _ e => by cases e)⟩
       have hr8 : Kd.R (Kd.int .i64) 3 W8 w.heap.size (fun _ => True) OV' (ints o') := by
        refine Kd.R_mono (Kd.R_move (Kd.R_bound hr') fun i hi => ?_) (fun _ _ => trivial)
        obtain ⟨_, _, _, q, _, cells, hcl⟩ := hi
        rw [hcl]
        exact hmv hcl (fun _ e => by cases e)
       have HST8 : Aside0 (MSt w b r h g w4.heap.size (w4.heap.size + 1) (w4.heap.size + 1 + 1) A0 c0 l0 m ed facts (fun _ => True) o' W8) := ⟨hos, hmv hv (fun _ e => by cases e), OV', hwa8, hr8⟩
       have HG8 : Aside0 (Prot.Good (Prot.get m) ed (l0.map toC) facts o' ∧ ∀ j ∈ o', Prot.get m (at_ (l0.map toC) j).thn < k + 1) := ⟨hgd.1, fun j hj => Nat.lt_succ_of_le (hgd.2 j hj)⟩
       have HLOW8 : Aside0 (∀ D ∈ W5.heap.size :: ds, w.heap.size ≤ D) := ⟨fun D hD => by
        rcases List.mem_cons.1 hD with rfl | hD
        ·have := hbw.size; omega
        ·exact HLOW.out D hD⟩
       have hmm : ([{ target := Target.collected W5.heap.size, args := #[] }] ++ ac.defers : List Deferred) = marks (W5.heap.size :: ds) := by rw [hdef]; rfl
       rw [hmm]
       subst hac
       clear hl hmk hbW hv hwa' hr' hp hq hgd hend hpe hoth hos hmv hW8 hwa8 hr8 hmm hdef h39 HI0 hIdef hrec hW6 hD6 hL6 hb6 hb56 hvb hwa hro hbw hL0 hL1 hLs hLb HMARK HG HST hvc
       dsimp only
       go_wp2
       refine ⟨⟨_, _, _, _, _, _, _, k + 1, o', W5.heap.size :: ds, rfl, by omega, HST8, HG8, HML2, HMK8, HLOW8⟩, ?_⟩
       simp only [Array.getD_eq_getD_getElem?, List.getElem?_toArray, List.getElem?_cons_succ, List.getElem?_cons_zero, Option.getD_some, intOf]
       omega
    ·obtain rfl : k = topOf m + 1 := by omega
     obtain ⟨hbw, hvb, OV, hwa, hro⟩ := HST.out
     have hvc := cell_of hvb
     have hoo : o = Prot.made (Prot.get m) (topOf m) ed (l0.map toC) facts := by
      have h := HMKk.out
      rw [Nat.sub_self] at h
      exact Option.some.inj h
     have hbw2 : ¬ (((topOf m + 1 : Nat) : Int) < ((topOf m : Nat) : Int) + 1) := by omega
     have hbw3 : decide (((topOf m + 1 : Nat) : Int) < ((topOf m : Nat) : Int) + 1) = false := decide_eq_false hbw2
     clear HST0 HMK hbw2
     go_wp2
     refine leaves_marks ds W' HMARK.out.1 HMARK.out.2 fun W9 hoff => ?_
     have hmv : ∀ {j : Nat} {ob : Obj}, W'.heap[j]? = some ob → (∀ x, ob ≠ .deferred x) → W9.heap[j]? = some ob := fun {j ob} hj hn => by
      rw [hoff.block j (fun e => by have := HMARK.out.1 j e; rw [hj] at this; exact hn _ (Option.some.inj this))]; exact hj
     refine ⟨.pointer (some ⟨w4.heap.size + 1, 0, none⟩), ?_, ⟨⟨hoff.os.trans hbw.os, hoff.tape.trans hbw.tape, hoff.output.trans hbw.output, by rw [hoff.size]; exact hbw.size, fun j hj => ?_⟩, ?_⟩⟩
     ·simp [results, Tryz.f52, go_sem]
     ·rw [hoff.block j (fun e => ?_)]
      ·exact hbw.block j hj
      ·exact absurd (HLOW.out j e) (by omega)
     ·rw [HM.out]
      refine ⟨w4.heap.size + 1, h, g, w4.heap.size, OV, rfl, ?_, ?_⟩
      ·rw [← hoo]
       exact ⟨hmv hwa.blk (fun _ e => by cases e), ⟨hmv hwa.book.blk (fun _ e => by cases e), hmv hwa.book.map (fun _ e => by cases e)⟩, hmv hwa.held (fun _ e => by cases e), hmv hwa.given (fun _ e => by cases e), hmv hwa.reasons (fun _ e => by cases e)⟩
      ·rw [← hoo]
       refine Kd.R_mono (Kd.R_move (Kd.R_bound hro) fun i hi => ?_) (fun _ _ => trivial)
       obtain ⟨_, _, _, q, _, cells, hcl⟩ := hi
       rw [hcl]
       exact hmv hcl (fun _ e => by cases e)
end
section
open Prot (heldOf roundL roundP addL addOne mkLevel mkLevels at_ firesB Good Fits)
attribute [local go_sem] slk sget sput uponK_value uponK_skip uponK_enter
theorem wrapJ {j : Nat} (h : j ≤ 9223372036854775806) : IntKind.i64.wrap ((j : Int) + 1) = ((j + 1 : Nat) : Int) := by rw [IntWalk.i64_in _ (by omega)]; omega
def indexB (n : Nat) (steps : List Int) : Bool := steps.all fun i => decide (0 ≤ i) && decide (i ≤ (n : Int) - 1)
theorem indexB_take (n : Nat) (steps : List Int) (k : Nat) (h : indexB n (steps.take k) = false) : indexB n steps = false := by
 unfold indexB at *
 rw [← List.take_append_drop k steps, List.all_append, h]
 rfl
set_option maxRecDepth 100000 in
set_option maxHeartbeats 1000000 in
theorem index_steps (b r : Nat) (A0 : Option Addr) (c0 : Nat) (l0 : List S25) (m : List (ByteArray × Nat)) (A1 : Option Addr) (c1 : Nat) (steps : List Int) (w : World) (hbk : BookAt w b r (.slice A0 l0.length c0) m (topOf m)) (hlen : l0.length ≤ 64) (hst : (Kd.int .i64).C w A1 steps.length steps) :
  Calls Tryz.prog 61 #[.pointer (some ⟨b, 0, none⟩), .slice A1 steps.length c1] w fun e w' => e = (if indexB l0.length steps then .returned (.tuple #[]) else refused (-1) 4) ∧ Below w.heap.size w w' := by
 have h63 := hst.2.1
 refine callsK (args := [.pointer (some ⟨b, 0, none⟩), .slice A1 steps.length c1]) Tryz.func61 rfl Tryz.ntmps61 (by simp) fun a HF => ?_
 refine wpIn_seq ?_
 refine wpIn_region_k (fun _ => trivial) rfl wideC HF fun K hK => ?_
 iterate 3 (refine OpsK.step rfl rfl rfl ?_; go_simp)
 refine OpsK.nil (hK _ _ fun a' hf' => ?_)
 clear hK K HF
 have HF : Fr 22 [] [(0, .pointer (some ⟨b, 0, none⟩)), (6, .slice A1 steps.length c1), (7, .int .i64 (steps.length : Nat)), (8, .int .i64 0)] a' := hf'.sub ⟨rfl, rfl, rfl, rfl, trivial⟩
 clear hf'
 refine wpIn_block (wpIn_loop (fun a w' => ∃ j : Nat, j ≤ steps.length ∧ Fr 22 [] [(0, .pointer (some ⟨b, 0, none⟩)), (6, .slice A1 steps.length c1), (7, .int .i64 (steps.length : Nat)), (8, .int .i64 (j : Nat))] a ∧ indexB l0.length (steps.take j) = true ∧ Below w.heap.size w w')
  (fun a _ => steps.length - (intOf (a.eval (.tmp 8))).toNat) ⟨0, Nat.zero_le _, HF, rfl, Below.refl _ _⟩ ?_)
 clear HF
 rintro a wr ⟨j, hj, HF, hin, hb⟩
 have hmu : steps.length - (intOf (a.eval (.tmp 8))).toNat = steps.length - j := by rw [HF.tmp (k := 8) rfl]; simp [intOf]
 rw [hmu]
 clear hmu
 refine wpIn_seq ?_
 have HIN := Aside0.mk hin
 clear hin
 by_cases hjl : j < steps.length
 ·have hlt : ((j : Nat) : Int) < ((steps.length : Nat) : Int) := by omega
  obtain ⟨ad, hA, hc⟩ := Kd.at_int (Kd.C_below hst hb) (j : Int) (by omega) (by omega)
  cases hA
  simp only [Int.toNat_natCast] at hc
  obtain ⟨i, hi⟩ : ∃ i, i = rd steps (j : Int) := ⟨_, rfl⟩
  rw [← hi] at hc
  have hbr := hbk.below hb
  obtain ⟨q0, q1, q2, q3⟩ := hbr.cell
  have HI := Aside0.mk hi
  have hw : IntKind.i64.wrap ((l0.length : Nat) - (1 : Int)) = (l0.length : Nat) - 1 := by rw [IntWalk.i64_in _ (by omega)]
  have htake : indexB l0.length (steps.take (j + 1)) = (decide (0 ≤ i) && decide (i ≤ (l0.length : Int) - 1)) := by
   have h1 := HIN.out
   unfold indexB at h1 ⊢
   rw [← List.take_append_getElem hjl, List.all_append, h1, hi]
   simp [rd, List.getD_eq_getElem?_getD, List.getElem?_eq_getElem hjl]
  have HTK := Aside0.mk htake
  clear hi htake
  refine wpIn_region_k (fun _ => trivial) rfl wideC HF fun K hK => ?_
  refine OpsK.step rfl rfl rfl ?_
  go_simp
  refine OpsK.nil (hK _ _ fun a' hf' => ?_)
  clear hK K HF
  have HF : Fr 22 [] [(0, .pointer (some ⟨b, 0, none⟩)), (6, .slice (some ad) steps.length c1), (7, .int .i64 (steps.length : Nat)), (8, .int .i64 (j : Nat)), (9, .bool true)] a' := hf'.sub ⟨rfl, rfl, rfl, rfl, rfl, trivial⟩
  clear hf'
  refine wpIn_seq (wpIn_cond_true (HF.tmp rfl) (wpIn_skip ?_))
  refine wpIn_seq (wpIn_block (wpIn_seq ?_))
  refine wpIn_region_k (fun _ => trivial) rfl wideC HF fun K hK => ?_
  iterate 3 (refine OpsK.step rfl rfl rfl ?_; go_simp)
  refine OpsK.nil (hK _ _ fun a' hf' => ?_)
  clear hK K HF
  have HF : Fr 22 [] [(0, .pointer (some ⟨b, 0, none⟩)), (6, .slice (some ad) steps.length c1), (7, .int .i64 (steps.length : Nat)), (8, .int .i64 (j : Nat)), (5, .int .i64 i)] a' := hf'.sub ⟨rfl, rfl, rfl, rfl, rfl, trivial⟩
  clear hf'
  cases hin : (decide (0 ≤ i) && decide (i ≤ (l0.length : Int) - 1)) with
  | false =>
   have HH := Aside0.mk hin
   clear hin
   refine wpIn_region_p (fun _ => trivial) rfl wideC HF fun K Pn hK hPn => ?_
   iterate 6 (refine OpsK.step rfl rfl rfl ?_; go_simp)
   refine OpsK.step rfl rfl rfl ?_
   first | rw [hw] | skip
   go_simp
   refine OpsK.step rfl rfl rfl ?_
   go_simp
   refine (within_any _ _ _ _).mono ?_
   rintro e w1 ⟨rfl, hb1⟩
   dsimp only
   rw [HH.out]
   refine OpsK.step rfl rfl rfl ?_
   go_simp
   refine (need_false _ _ _).mono ?_
   rintro e w2 ⟨rfl, rfl⟩
   dsimp only
   refine hPn _ _ fun a' hd => ?_
   exact ⟨hd, by rw [if_neg (by rw [indexB_take _ steps (j + 1) (by rw [HTK.out]; exact HH.out)]; simp)]; rfl, below_then hb hb.size hb1⟩
  | true =>
   have HH := Aside0.mk hin
   clear hin
   refine wpIn_region_p (fun _ => trivial) rfl wideC HF fun K Pn hK hPn => ?_
   iterate 6 (refine OpsK.step rfl rfl rfl ?_; go_simp)
   refine OpsK.step rfl rfl rfl ?_
   first | rw [hw] | skip
   go_simp
   refine OpsK.step rfl rfl rfl ?_
   go_simp
   refine (within_any _ _ _ _).mono ?_
   rintro e w1 ⟨rfl, hb1⟩
   dsimp only
   rw [HH.out]
   refine OpsK.step rfl rfl rfl ?_
   go_simp
   refine (need_true _ _ _).mono ?_
   rintro e w2 ⟨rfl, rfl⟩
   dsimp only
   refine OpsK.nil (hK _ _ fun a' hf' => ?_)
   clear hK K HF hPn Pn
   have HF := hf'.sub (l' := [(0, .pointer (some ⟨b, 0, none⟩)), (6, .slice (some ad) steps.length c1), (7, .int .i64 (steps.length : Nat)), (8, .int .i64 (j : Nat))]) ⟨rfl, rfl, rfl, rfl, trivial⟩
   clear hf'
   have hwJ := wrapJ (j := j) (by omega)
   have HWJ := Aside0.mk hwJ
   clear hwJ
   show Code.wpIn _ _ _ (Code.region 4 _ _) _ _ _
   refine wpIn_region_k (fun _ => trivial) rfl wideC HF fun K hK => ?_
   iterate 2 (refine OpsK.step rfl rfl rfl ?_; go_simp)
   refine OpsK.nil (hK _ _ fun a3 hf' => ?_)
   clear hK K HF
   rw [HWJ.out] at hf'
   have HF : Fr 22 [] [(0, .pointer (some ⟨b, 0, none⟩)), (6, .slice (some ad) steps.length c1), (7, .int .i64 (steps.length : Nat)), (8, .int .i64 ((j + 1 : Nat) : Int))] a3 := hf'.sub ⟨rfl, rfl, rfl, rfl, trivial⟩
   clear hf'
   refine ⟨⟨j + 1, by omega, HF, by rw [HTK.out]; exact HH.out, below_then hb hb.size hb1⟩, ?_⟩
   rw [HF.tmp (k := 8) rfl]
   simp only [intOf]
   omega
 ·obtain rfl : j = steps.length := by omega
  have hnlt : ¬ ((steps.length : Nat) : Int) < ((steps.length : Nat) : Int) := by omega
  refine wpIn_region_k (fun _ => trivial) rfl wideC HF fun K hK => ?_
  refine OpsK.step rfl rfl rfl ?_
  go_simp
  refine OpsK.nil (hK _ _ fun a' hf' => ?_)
  clear hK K HF
  have HF : Fr 22 [] [(0, .pointer (some ⟨b, 0, none⟩)), (6, .slice A1 steps.length c1), (7, .int .i64 (steps.length : Nat)), (9, .bool false)] a' := hf'.sub ⟨rfl, rfl, rfl, rfl, trivial⟩
  clear hf'
  refine wpIn_seq (wpIn_cond_false (HF.tmp rfl) (wpIn_exit ?_))
  simp only [Exit.then, Exit.inBlock, ↓reduceIte]
  refine HF.end0 rfl ⟨?_, hb⟩
  have := HIN.out
  rw [List.take_length] at this
  rw [this]
  rfl
end
section
open Prot (heldOf roundL roundP addL addOne mkLevel mkLevels at_ firesB Good Fits)
attribute [local go_sem] slk sget sput uponK_value uponK_skip uponK_enter
open Prot (wantF reasonOf)
def setI (l : List Nat) : List (Int × Value) := l.foldl (fun m (i : Nat) => mput m (i : Int) (.bool true)) []
theorem setI_snoc (l : List Nat) (i : Nat) : setI (l ++ [i]) = mput (setI l) (i : Int) (.bool true) := by simp [setI]
theorem setI_get (l : List Nat) (i : Nat) : mget (setI l) (i : Int) = if l.contains i then some (.bool true) else none := by
 rw [← l.reverse_reverse]
 induction l.reverse with
 | nil => rfl
 | cons j l ih =>
  rw [List.reverse_cons, setI_snoc]
  generalize l.reverse = l at ih ⊢
  by_cases h : (i : Int) = (j : Int)
  ·rw [h, mget_mput_same]
   have : i = j := by omega
   simp [this]
  ·rw [mget_mput_other _ _ h, ih]
   have : ¬ i = j := by omega
   simp [this]
theorem setI_bool (l : List Nat) (i : Nat) : (mget (setI l) (i : Int)).getD (.bool false) = .bool (l.contains i) := by
 rw [setI_get]
 cases l.contains i <;> rfl
theorem reasons_get (bk : List (Prot.Cl ByteArray)) (o : List Nat) (hn : (Prot.thens bk o).Nodup) (f : ByteArray) : mget (reasonsOf bk o) f = (reasonOf bk o f).map fun i => .int .i64 (i : Nat) := by
 rw [← o.reverse_reverse] at hn ⊢
 revert hn
 induction o.reverse with
 | nil => intro _; rfl
 | cons i o ih =>
  rw [List.reverse_cons]
  generalize o.reverse = o at ih ⊢
  intro hn
  rw [reasonsOf_snoc]
  rw [Prot.thens_append] at hn
  have hn1 := (List.nodup_append.1 hn).1
  have ih := ih hn1
  by_cases h : f = (at_ bk i).thn
  ·subst h
   rw [mget_mput_same]
   have : reasonOf bk (o ++ [i]) (at_ bk i).thn = some i := Prot.reasonOf_of (by rw [Prot.thens_append]; exact hn) (by simp)
   rw [this]
   rfl
  ·rw [mget_mput_other _ _ h, ih]
   congr 1
   unfold reasonOf
   rw [List.find?_append]
   cases List.find? (fun i => decide ((at_ bk i).thn = f)) o with
   | some _ => rfl
   | none => simp [Ne.symm h]
theorem putMap_putMap {κ : Type} [DecidableEq κ] {enc : κ → Value} {W : World} {r : Nat} (a b : List (κ × Value)) : putMap enc (putMap enc W r a) r b = putMap enc W r b := by
 unfold putMap
 congr 1
 simp
theorem putMap_self {κ : Type} [DecidableEq κ] {enc : κ → Value} {W : World} {r : Nat} {m : List (κ × Value)} (h : H.MapAt enc W r m) : putMap enc W r m = W := by
 unfold putMap
 have : W.heap.setIfInBounds r (.map (ents enc m) m.length) = W.heap := by
  apply Array.ext_getElem?
  intro j
  rw [Array.getElem?_setIfInBounds]
  split
  ·rename_i e
   subst e
   rw [if_pos h.lt]
   exact h.out.symm
  ·rfl
 rw [this]
structure WhyAt (w0 w : World) (vb ub fb wb b r h g rr wm : Nat) (A0 : Option Addr) (c0 : Nat) (l0 : List S25) (m : List (ByteArray × Nat)) (ed : Int) (hs gs : List (ByteArray × Value)) (o : List Nat) (ov : Value) : Prop where
 below : Below w0.heap.size w0 w
 low : w0.heap.size ≤ wm
 hv : w.heap[vb]? = some (.cells #[.pointer (some ⟨wb, 0, none⟩)] 75 (0, 0))
 hu : w.heap[ub]? = some (.cells #[.map (some wm)] 113 (0, 0))
 hf : w.heap[fb]? = some (.cells #[.func (.func 78) #[] #[.pointer (some ⟨vb, 0, none⟩), .pointer (some ⟨ub, 0, none⟩), .pointer (some ⟨fb, 0, none⟩)]] 114 (0, 0))
 wat : WAt w wb b r h g rr (.slice A0 l0.length c0) m (topOf m) ed hs gs (reasonsOf (l0.map toC) o) ov
 apart : wm ≠ r ∧ wm ≠ h ∧ wm ≠ g ∧ wm ≠ rr
theorem WhyAt.put {w0 w : World} {vb ub fb wb b r h g rr wm : Nat} {A0 : Option Addr} {c0 : Nat} {l0 : List S25} {m : List (ByteArray × Nat)} {ed : Int} {hs gs : List (ByteArray × Value)} {o W : List Nat} {ov : Value}
  (k : WhyAt w0 w vb ub fb wb b r h g rr wm A0 c0 l0 m ed hs gs o ov) (hm : H.MapAt H.encI w wm (setI W)) (m' : List (Int × Value)) : WhyAt w0 (putMap H.encI w wm m') vb ub fb wb b r h g rr wm A0 c0 l0 m ed hs gs o ov := by
 have hne : ∀ {j : Nat} {ob : Obj}, w.heap[j]? = some ob → (∀ es n, ob ≠ .map es n) → j ≠ wm := fun {j ob} hj hn e => by
  subst e; rw [hm.out] at hj; exact hn _ _ (Option.some.inj hj).symm
 have mv : ∀ {j : Nat} {ob : Obj}, w.heap[j]? = some ob → j ≠ wm → (putMap H.encI w wm m').heap[j]? = some ob := fun {j ob} hj h => by rw [putMap_heap_other _ h]; exact hj
 obtain ⟨n1, n2, n3, n4⟩ := k.apart
 exact ⟨below_putMap k.below k.low m', k.low, mv k.hv (hne k.hv (fun _ _ e => by cases e)), mv k.hu (hne k.hu (fun _ _ e => by cases e)), mv k.hf (hne k.hf (fun _ _ e => by cases e)),
  ⟨mv k.wat.blk (hne k.wat.blk (fun _ _ e => by cases e)), ⟨mv k.wat.book.blk (hne k.wat.book.blk (fun _ _ e => by cases e)), mv k.wat.book.map (Ne.symm n1)⟩, mv k.wat.held (Ne.symm n2), mv k.wat.given (Ne.symm n3), mv k.wat.reasons (Ne.symm n4)⟩, k.apart⟩
theorem enters78 (args : Array Value) (w : World) : (callFunc 78 args).run Tryz.prog w = .ok (.enter 78 args) w := enters_of Tryz.func78 (by kernel_rfl) rfl args w
set_option maxRecDepth 100000 in
set_option maxHeartbeats 2000000 in
theorem want_calls (w0 : World) (vb ub fb wb b r h g rr wm : Nat) (A0 : Option Addr) (c0 : Nat) (l0 : List S25) (m : List (ByteArray × Nat)) (ed : Int) (hs gs : List (ByteArray × Value)) (o : List Nat) (ov : Value) (hr0 : Kd.C k25 w0 A0 l0.length l0) (hn : (Prot.thens (l0.map toC) o).Nodup) (ho : ∀ i ∈ o, i < l0.length)
  (k : Nat) : ∀ (f : ByteArray) (U U' : List Nat) (w : World), WhyAt w0 w vb ub fb wb b r h g rr wm A0 c0 l0 m ed hs gs o ov → H.MapAt H.encI w wm (setI U) → wantF (l0.map toC) o k f U = some U' →
  Calls Tryz.prog 78 #[.string f, .pointer (some ⟨vb, 0, none⟩), .pointer (some ⟨ub, 0, none⟩), .pointer (some ⟨fb, 0, none⟩)] w fun e w' => e = .returned (.tuple #[]) ∧ w' = putMap H.encI w wm (setI U') := by
 induction k with
 | zero => intro f U U' w _ _ hw; exact absurd hw (by simp [wantF])
 | succ k ih =>
  intro f U U' w hk hm hw
  have IH := Aside0.mk ih
  have HW := Aside0.mk hw
  have HM := Aside0.mk hm
  have HK := Aside0.mk hk
  have hvc := cell_of hk.hv
  have huc := cell_of hk.hu
  have hfc := cell_of hk.hf
  obtain ⟨y0, y1, y2, y3, y4, y5, y6⟩ := hk.wat.cells
  obtain ⟨q0, q1, q2, q3⟩ := hk.wat.book.cell
  have hlk := run_lookup_ok_at (P := Tryz.prog) keyS Tryz.underlying62 Tryz.underlying9 hk.wat.reasons zero3 f
  rw [reasons_get _ _ hn] at hlk
  simp only [H.encS] at hlk
  clear ih hw hm hk
  cases hro : reasonOf (l0.map toC) o f with
  | none =>
   rw [hro] at hlk
   simp only [Option.map_none, Option.getD_none, Option.isSome_none] at hlk
   have hU : U' = U := by have := HW.out; simp only [wantF, hro] at this; exact (Option.some.inj this).symm
   clear hro
   refine callsK (args := [.string f, .pointer (some ⟨vb, 0, none⟩), .pointer (some ⟨ub, 0, none⟩), .pointer (some ⟨fb, 0, none⟩)]) Tryz.func78 rfl Tryz.ntmps78 (by simp) fun a HF0 => ?_
   have HF : Fr 47 [] [(0, .string f), (1, .pointer (some ⟨vb, 0, none⟩)), (2, .pointer (some ⟨ub, 0, none⟩)), (3, .pointer (some ⟨fb, 0, none⟩))] a := HF0
   clear HF0
   refine wpIn_seq ?_
   refine wpIn_region_k (fun _ => trivial) rfl wideC HF fun K hK => ?_
   iterate 11 (refine OpsK.step rfl rfl rfl ?_; go_simp)
   refine OpsK.nil (hK _ _ fun a' hf' => ?_)
   clear hK K HF
   have HF : Fr 47 [] [(0, .string f), (1, .pointer (some ⟨vb, 0, none⟩)), (2, .pointer (some ⟨ub, 0, none⟩)), (3, .pointer (some ⟨fb, 0, none⟩)), (5, .int .i64 0), (6, .bool false)] a' := hf'.sub ⟨rfl, rfl, rfl, rfl, rfl, rfl, trivial⟩
   clear hf'
   refine wpIn_seq (wpIn_seq ?_)
   refine wpIn_region_k (fun _ => trivial) rfl wideC HF fun K hK => ?_
   iterate 3 (refine OpsK.step rfl rfl rfl ?_; go_simp)
   refine OpsK.skip rfl rfl ?_
   refine OpsK.skip rfl rfl ?_
   refine OpsK.skip rfl rfl ?_
   refine OpsK.step rfl rfl rfl ?_
   go_simp
   refine OpsK.nil (hK _ _ fun a' hf' => ?_)
   clear hK K HF
   have HF : Fr 47 [] [(0, .string f), (1, .pointer (some ⟨vb, 0, none⟩)), (2, .pointer (some ⟨ub, 0, none⟩)), (3, .pointer (some ⟨fb, 0, none⟩)), (24, .bool true)] a' := hf'.sub ⟨rfl, rfl, rfl, rfl, rfl, trivial⟩
   clear hf'
   refine wpIn_cond_true (HF.tmp rfl) (wpIn_ret ?_)
   simp only [Exit.then, Exit.inBlock, ↓reduceIte]
   refine HF.ret0 rfl ⟨rfl, ?_⟩
   rw [hU, putMap_self HM.out]
  | some i =>
   have hi : i < l0.length := ho i (Prot.reasonOf_some hro).1
   rw [hro] at hlk
   simp only [Option.map_some, Option.getD_some, Option.isSome_some] at hlk
   have hlk2 := run_lookup_at (P := Tryz.prog) keyI Tryz.underlying113 Tryz.underlying3 HM.out zero4 (i : Int)
   obtain ⟨cu, hcu⟩ : ∃ cu, U.contains i = cu := ⟨_, rfl⟩
   rw [setI_bool, hcu] at hlk2
   have HCU := Aside0.mk hcu
   clear hcu
   simp only [H.encI] at hlk2
   have HRO := Aside0.mk hro
   have HI := Aside0.mk hi
   clear hro
   refine callsK (args := [.string f, .pointer (some ⟨vb, 0, none⟩), .pointer (some ⟨ub, 0, none⟩), .pointer (some ⟨fb, 0, none⟩)]) Tryz.func78 rfl Tryz.ntmps78 (by simp) fun a HF0 => ?_
   have HF : Fr 47 [] [(0, .string f), (1, .pointer (some ⟨vb, 0, none⟩)), (2, .pointer (some ⟨ub, 0, none⟩)), (3, .pointer (some ⟨fb, 0, none⟩))] a := HF0
   clear HF0
   refine wpIn_seq ?_
   refine wpIn_region_k (fun _ => trivial) rfl wideC HF fun K hK => ?_
   iterate 11 (refine OpsK.step rfl rfl rfl ?_; go_simp)
   refine OpsK.nil (hK _ _ fun a' hf' => ?_)
   clear hK K HF
   have HF : Fr 47 [] [(0, .string f), (1, .pointer (some ⟨vb, 0, none⟩)), (2, .pointer (some ⟨ub, 0, none⟩)), (3, .pointer (some ⟨fb, 0, none⟩)), (5, .int .i64 (i : Nat)), (6, .bool true)] a' := hf'.sub ⟨rfl, rfl, rfl, rfl, rfl, rfl, trivial⟩
   clear hf'
   refine wpIn_seq (wpIn_seq ?_)
   refine wpIn_region_k (fun _ => trivial) rfl wideC HF fun K hK => ?_
   iterate 7 (refine OpsK.step rfl rfl rfl ?_; go_simp)
   refine OpsK.nil (hK _ _ fun a' hf' => ?_)
   clear hK K HF
   have HF : Fr 47 [] [(0, .string f), (1, .pointer (some ⟨vb, 0, none⟩)), (2, .pointer (some ⟨ub, 0, none⟩)), (3, .pointer (some ⟨fb, 0, none⟩)), (5, .int .i64 (i : Nat)), (24, .bool cu)] a' := hf'.sub ⟨rfl, rfl, rfl, rfl, rfl, rfl, trivial⟩
   clear hf'
   cases cu with
   | true =>
    have hu := HCU.out
    have hU : U' = U := by have := HW.out; simp only [wantF, HRO.out, hu, if_true] at this; exact (Option.some.inj this).symm
    refine wpIn_cond_true (HF.tmp rfl) (wpIn_ret ?_)
    simp only [Exit.then, Exit.inBlock, ↓reduceIte]
    refine HF.ret0 rfl ⟨rfl, ?_⟩
    rw [hU, putMap_self HM.out]
   | false =>
    have hu := HCU.out
    have hfold : (at_ (l0.map toC) i).ifs.foldlM (fun W f => wantF (l0.map toC) o k f W) (U ++ [i]) = some U' := by
     have := HW.out; simp only [wantF, HRO.out, hu, Bool.false_eq_true, if_false] at this; exact this
    refine wpIn_cond_false (HF.tmp rfl) (wpIn_skip ?_)
    clear hlk hlk2 hu
    have hup := run_mapUpdate_at (P := Tryz.prog) keyI Tryz.underlying113 Tryz.underlying3 HM.out (i : Int) (.bool true)
    rw [← setI_snoc] at hup
    simp only [H.encI] at hup
    have hk1 := HK.out.put HM.out (setI (U ++ [i]))
    have hm1 : H.MapAt H.encI (putMap H.encI w wm (setI (U ++ [i]))) wm (setI (U ++ [i])) := HM.out.put _
    obtain ⟨w1, hw1⟩ : ∃ w1, w1 = putMap H.encI w wm (setI (U ++ [i])) := ⟨_, rfl⟩
    rw [← hw1] at hup hk1 hm1
    have HW1 := Aside0.mk hw1
    clear hw1
    refine wpIn_seq ?_
    refine wpIn_region_k (fun _ => trivial) rfl wideC HF fun K hK => ?_
    iterate 2 (refine OpsK.step rfl rfl rfl ?_; go_simp)
    refine OpsK.step rfl rfl rfl ?_
    simp only [execOp, slk, sget, ↓reduceIte, Nat.reduceEqDiff, Option.getD_some]
    go_simp
    refine OpsK.nil (hK _ _ fun a' hf' => ?_)
    clear hK K HF
    have HF : Fr 47 [] [(0, .string f), (1, .pointer (some ⟨vb, 0, none⟩)), (2, .pointer (some ⟨ub, 0, none⟩)), (3, .pointer (some ⟨fb, 0, none⟩)), (5, .int .i64 (i : Nat))] a' := hf'.sub ⟨rfl, rfl, rfl, rfl, rfl, trivial⟩
    clear hf'
    have hb1 := hk1.below
    have hv1 := cell_of hk1.hv
    obtain ⟨z0, z1, z2, z3, z4, z5, z6⟩ := hk1.wat.cells
    obtain ⟨p0, p1, p2, p3⟩ := hk1.wat.book.cell
    obtain ⟨ad, A3, c3, A4, c4, hA0, x0, x1, x2, x3, x4, x5, l3, g3, l4, g4⟩ := at_T25 hr0 (i : Int) (by omega) (by omega)
    simp only [Int.toNat_natCast] at x3
    obtain ⟨x, hx⟩ : ∃ x, x = rd_T25 l0 (i : Int) := ⟨_, rfl⟩
    rw [← hx] at x3 l3 g3
    have hat : at_ (l0.map toC) i = toC x := by rw [hx]; exact at_toC l0 hi
    rw [hat] at hfold
    have hfold2 : x.f3.foldlM (fun W f => wantF (l0.map toC) o k f W) (U ++ [i]) = some U' := hfold
    have x3' := pw_cell_below hb1 x3
    have hlen := g3.2.1
    cases A0 with
    | none => cases hA0
    | some ad0 =>
    cases hA0
    have HHF := Aside0.mk hfold2
    have HK1 := Aside0.mk hk1
    have HM1 := Aside0.mk hm1
    have HG3 := Aside0.mk g3
    have HLI : ((i : Nat) : Int) < ((l0.length : Nat) : Int) := by omega
    clear hx hat hfold hfold2 x0 x1 x2 x3 x4 x5 l4 g4 hk1 hm1 g3 hup
    refine wpIn_seq ?_
    refine wpIn_region_k (fun _ => trivial) rfl wideC HF fun K hK => ?_
    iterate 13 (refine OpsK.step rfl rfl rfl ?_; go_simp)
    refine OpsK.nil (hK _ _ fun a' hf' => ?_)
    clear hK K HF
    have HF : Fr 47 [] [(0, .string f), (1, .pointer (some ⟨vb, 0, none⟩)), (2, .pointer (some ⟨ub, 0, none⟩)), (3, .pointer (some ⟨fb, 0, none⟩)), (37, .slice A3 x.f3.length c3), (38, .int .i64 (x.f3.length : Nat)), (39, .int .i64 0)] a' := hf'.sub ⟨rfl, rfl, rfl, rfl, rfl, rfl, rfl, trivial⟩
    clear hf'
    clear y0 y1 y2 y3 y4 y5 y6 q0 q1 q2 q3 hvc huc hfc z0 z1 z2 z3 z4 z5 z6 p0 p1 p2 p3 hv1 x3'
    refine wpIn_block (wpIn_loop (fun a wr => ∃ (j : Nat) (V : List Nat), j ≤ x.f3.length ∧ Fr 47 [] [(0, .string f), (1, .pointer (some ⟨vb, 0, none⟩)), (2, .pointer (some ⟨ub, 0, none⟩)), (3, .pointer (some ⟨fb, 0, none⟩)), (37, .slice A3 x.f3.length c3), (38, .int .i64 (x.f3.length : Nat)), (39, .int .i64 (j : Nat))] a ∧ (x.f3.drop j).foldlM (fun W f => wantF (l0.map toC) o k f W) V = some U' ∧ wr = putMap H.encI w wm (setI V))
     (fun a _ => x.f3.length - (intOf (a.eval (.tmp 39))).toNat) ⟨0, U ++ [i], Nat.zero_le _, HF, HHF.out, HW1.out⟩ ?_)
    clear HF
    rintro a wr ⟨j, V, hj, HF, hfo, hwr⟩
    have hmu : x.f3.length - (intOf (a.eval (.tmp 39))).toNat = x.f3.length - j := by rw [HF.tmp (k := 39) rfl]; simp [intOf]
    rw [hmu]
    clear hmu
    have HFO := Aside0.mk hfo
    have HWR := Aside0.mk hwr
    clear hfo
    have hkr := HK.out.put HM.out (setI V)
    have hmr : H.MapAt H.encI (putMap H.encI w wm (setI V)) wm (setI V) := HM.out.put _
    rw [← hwr] at hkr hmr
    clear hwr
    refine wpIn_seq ?_
    by_cases hjl : j < x.f3.length
    ·have hlt : ((j : Nat) : Int) < ((x.f3.length : Nat) : Int) := by omega
     have hgr := Kd.C_below HG3.out hkr.below
     obtain ⟨ad3, hA3, hc3⟩ := Kd.at_string hgr (j : Int) (by omega) (by omega)
     cases hA3
     simp only [Int.toNat_natCast] at hc3
     obtain ⟨s, hs⟩ : ∃ s, s = rdOf ByteArray.empty x.f3 (j : Int) := ⟨_, rfl⟩
     rw [← hs] at hc3
     have hfcr := cell_of hkr.hf
     have hsj : s = x.f3[j] := by rw [hs]; simp [rdOf, List.getD_eq_getElem?_getD, List.getElem?_eq_getElem hjl]
     have hdrop : x.f3.drop j = s :: x.f3.drop (j + 1) := by rw [hsj]; exact List.drop_eq_getElem_cons hjl
     have hfo := HFO.out
     rw [hdrop, List.foldlM_cons] at hfo
     obtain ⟨V1, hV1, hfo1⟩ := Option.bind_eq_some_iff.1 hfo
     have HC := Aside0.mk (IH.out s V V1 wr hkr hmr hV1)
     have HFO1 := Aside0.mk hfo1
     have hwJ := wrapJ (j := j) (by omega)
     have HWJ := Aside0.mk hwJ
     have he78 := enters78
     clear hs hsj hdrop hfo hfo1 hV1 hkr hmr hgr hwJ
     refine wpIn_region_k (fun _ => trivial) rfl wideC HF fun K hK => ?_
     refine OpsK.step rfl rfl rfl ?_
     go_simp
     refine OpsK.nil (hK _ _ fun a' hf' => ?_)
     clear hK K HF
     have HF : Fr 47 [] [(0, .string f), (1, .pointer (some ⟨vb, 0, none⟩)), (2, .pointer (some ⟨ub, 0, none⟩)), (3, .pointer (some ⟨fb, 0, none⟩)), (37, .slice (some ad3) x.f3.length c3), (38, .int .i64 (x.f3.length : Nat)), (39, .int .i64 (j : Nat)), (40, .bool true)] a' := hf'.sub ⟨rfl, rfl, rfl, rfl, rfl, rfl, rfl, rfl, trivial⟩
     clear hf'
     refine wpIn_seq (wpIn_cond_true (HF.tmp rfl) (wpIn_skip ?_))
     refine wpIn_seq (wpIn_block (wpIn_seq ?_))
     refine wpIn_region_k (fun _ => trivial) rfl wideC HF fun K hK => ?_
     iterate 3 (refine OpsK.step rfl rfl rfl ?_; go_simp)
     refine OpsK.nil (hK _ _ fun a' hf' => ?_)
     clear hK K HF
     have HF : Fr 47 [] [(0, .string f), (1, .pointer (some ⟨vb, 0, none⟩)), (2, .pointer (some ⟨ub, 0, none⟩)), (3, .pointer (some ⟨fb, 0, none⟩)), (37, .slice (some ad3) x.f3.length c3), (38, .int .i64 (x.f3.length : Nat)), (39, .int .i64 (j : Nat)), (8, .string s)] a' := hf'.sub ⟨rfl, rfl, rfl, rfl, rfl, rfl, rfl, rfl, trivial⟩
     clear hf'
     refine wpIn_region_k (fun _ => trivial) rfl wideC HF fun K hK => ?_
     iterate 3 (refine OpsK.step rfl rfl rfl ?_; go_simp)
     refine HC.out.mono ?_
     rintro e w2 ⟨rfl, hw2⟩
     dsimp only
     refine OpsK.nil (hK _ _ fun a' hf' => ?_)
     clear hK K HF
     have HF : Fr 47 [] [(0, .string f), (1, .pointer (some ⟨vb, 0, none⟩)), (2, .pointer (some ⟨ub, 0, none⟩)), (3, .pointer (some ⟨fb, 0, none⟩)), (37, .slice (some ad3) x.f3.length c3), (38, .int .i64 (x.f3.length : Nat)), (39, .int .i64 (j : Nat))] a' := hf'.sub ⟨rfl, rfl, rfl, rfl, rfl, rfl, rfl, trivial⟩
     clear hf'
     have HW2 := Aside0.mk hw2
     clear hw2
     show Code.wpIn _ _ _ (Code.region 7 _ _) _ _ _
     refine wpIn_region_k (fun _ => trivial) rfl wideC HF fun K hK => ?_
     iterate 2 (refine OpsK.step rfl rfl rfl ?_; go_simp)
     refine OpsK.nil (hK _ _ fun a3 hf' => ?_)
     clear hK K HF
     rw [HWJ.out] at hf'
     have HF : Fr 47 [] [(0, .string f), (1, .pointer (some ⟨vb, 0, none⟩)), (2, .pointer (some ⟨ub, 0, none⟩)), (3, .pointer (some ⟨fb, 0, none⟩)), (37, .slice (some ad3) x.f3.length c3), (38, .int .i64 (x.f3.length : Nat)), (39, .int .i64 ((j + 1 : Nat) : Int))] a3 := hf'.sub ⟨rfl, rfl, rfl, rfl, rfl, rfl, rfl, trivial⟩
     clear hf'
     refine ⟨⟨j + 1, V1, by omega, HF, HFO1.out, by rw [HW2.out, HWR.out, putMap_putMap]⟩, ?_⟩
     rw [HF.tmp (k := 39) rfl]
     simp only [intOf]
     omega
    ·obtain rfl : j = x.f3.length := by omega
     have hnlt : ¬ ((x.f3.length : Nat) : Int) < ((x.f3.length : Nat) : Int) := by omega
     have hfo := HFO.out
     rw [List.drop_length] at hfo
     have hVU : V = U' := Option.some.inj hfo
     have HVU := Aside0.mk hVU
     clear hfo hVU
     refine wpIn_region_k (fun _ => trivial) rfl wideC HF fun K hK => ?_
     refine OpsK.step rfl rfl rfl ?_
     go_simp
     refine OpsK.nil (hK _ _ fun a' hf' => ?_)
     clear hK K HF
     have HF : Fr 47 [] [(0, .string f), (1, .pointer (some ⟨vb, 0, none⟩)), (2, .pointer (some ⟨ub, 0, none⟩)), (3, .pointer (some ⟨fb, 0, none⟩)), (37, .slice A3 x.f3.length c3), (38, .int .i64 (x.f3.length : Nat)), (40, .bool false)] a' := hf'.sub ⟨rfl, rfl, rfl, rfl, rfl, rfl, rfl, trivial⟩
     clear hf'
     refine wpIn_seq (wpIn_cond_false (HF.tmp rfl) (wpIn_exit ?_))
     simp only [Exit.then, Exit.inBlock, ↓reduceIte]
     refine HF.end0 rfl ⟨rfl, ?_⟩
     rw [HWR.out, HVU.out]
end
section
open Prot (heldOf roundL roundP addL addOne mkLevel mkLevels at_ firesB Good Fits)
attribute [local go_sem] slk sget sput uponK_value uponK_skip uponK_enter
open Prot (wantF reasonOf)
theorem Laid.heap {w W : World} {os : List Obj} (h : Laid w W os) {i : Nat} {o : Obj} (ho : os[i]? = some o) : W.heap[w.heap.size + i]? = some o := by
 rw [h.at_ i (List.getElem?_eq_some_iff.1 ho).1]; exact ho
theorem own_base' {α : Type} {d : Kd α} {e : Nat} {w : World} {base : Nat} {ok : Nat → Prop} {v : Value} {xs : List α} (h : d.R e w base ok v xs) : ∀ k, v.ownBlock = some k → base ≤ k := by
 obtain ⟨_, inner, ho, _⟩ := h
 exact own_base ho
set_option maxRecDepth 100000 in
set_option maxHeartbeats 2000000 in
theorem why_calls (wb b r h g rr : Nat) (A0 : Option Addr) (c0 : Nat) (l0 : List S25) (m : List (ByteArray × Nat)) (ed : Int) (hs gs : List (ByteArray × Value)) (o U : List Nat) (A5 : Option Addr) (c5 : Nat) (k : Nat) (claim : ByteArray) (w : World) (hr0 : Kd.C k25 w A0 l0.length l0) (hn : (Prot.thens (l0.map toC) o).Nodup) (ho : ∀ i ∈ o, i < l0.length)
  (hwa : WAt w wb b r h g rr (.slice A0 l0.length c0) m (topOf m) ed hs gs (reasonsOf (l0.map toC) o) (.slice A5 o.length c5)) (hrow : (Kd.int .i64).C w A5 o.length (ints o)) (hol : o.length ≤ 64) (hU : wantF (l0.map toC) o k claim [] = some U) :
  Calls Tryz.prog 57 #[.pointer (some ⟨wb, 0, none⟩), .string claim] w fun e w' => ∃ v, e = .returned v ∧ Kd.R (Kd.int .i64) 3 w' w.heap.size (fun _ => True) v (ints (o.filter U.contains)) ∧ Below w.heap.size w w' := by
 have hmk : ∀ W, (Instr.makeMap 113 none).run Tryz.prog W = .ok (.map (some W.heap.size)) (W.alloc (.map #[] 0)) := fun W => by rfl
 have hmf : ∀ (fn : Fn) (first cap : Array Value) (w : World), (Instr.makeFunc fn first cap).run Tryz.prog w = .ok (.func fn first cap) w := fun _ _ _ _ => rfl
 have HWA := Aside0.mk hwa
 have HROW := Aside0.mk hrow
 have HR0 := Aside0.mk hr0
 have HUU := Aside0.mk hU
 clear hwa hrow hr0 hU
 refine callsK (args := [.pointer (some ⟨wb, 0, none⟩), .string claim]) Tryz.func57 rfl Tryz.ntmps57 (by simp) fun a HF0 => ?_
 have HF : Fr 33 [] [(0, .pointer (some ⟨wb, 0, none⟩)), (1, .string claim)] a := HF0
 clear HF0
 refine wpIn_seq ?_
 refine wpIn_region_k (fun _ => trivial) rfl wideC HF fun K hK => ?_
 iterate 2 (refine OpsK.step rfl rfl rfl ?_; go_simp)
 refine OpsK.nil (hK _ _ fun a' hf' => ?_)
 clear hK K HF
 have HF : Fr 33 [] [(1, .string claim), (2, .pointer (some ⟨w.heap.size, 0, none⟩))] a' := hf'.sub ⟨rfl, rfl, trivial⟩
 clear hf'
 refine wpIn_seq ?_
 refine wpIn_region_k (fun _ => trivial) rfl wideC HF fun K hK => ?_
 iterate 3 (refine OpsK.step rfl rfl rfl ?_; go_simp)
 refine OpsK.nil (hK _ _ fun a' hf' => ?_)
 clear hK K HF
 have HF : Fr 33 [] [(1, .string claim), (2, .pointer (some ⟨w.heap.size, 0, none⟩)), (5, .pointer (some ⟨w.heap.size + 1 + 1, 0, none⟩))] a' := hf'.sub ⟨rfl, rfl, rfl, trivial⟩
 clear hf'
 refine wpIn_seq ?_
 refine wpIn_region_k (fun _ => trivial) rfl wideC HF fun K hK => ?_
 refine OpsK.step rfl rfl rfl ?_
 go_simp
 refine OpsK.nil (hK _ _ fun a' hf' => ?_)
 clear hK K HF
 have HF : Fr 33 [] [(1, .string claim), (2, .pointer (some ⟨w.heap.size, 0, none⟩)), (5, .pointer (some ⟨w.heap.size + 1 + 1, 0, none⟩)), (6, .pointer (some ⟨w.heap.size + 1 + 1 + 1, 0, none⟩))] a' := hf'.sub ⟨rfl, rfl, rfl, rfl, trivial⟩
 clear hf'
 refine wpIn_seq ?_
 refine wpIn_region_k (fun _ => trivial) rfl wideC HF fun K hK => ?_
 iterate 2 (refine OpsK.step rfl rfl rfl ?_; go_simp)
 refine OpsK.nil (hK _ _ fun a' hf' => ?_)
 clear hK K HF
 have HF : Fr 33 [] [(1, .string claim), (2, .pointer (some ⟨w.heap.size, 0, none⟩)), (5, .pointer (some ⟨w.heap.size + 1 + 1, 0, none⟩)), (6, .pointer (some ⟨w.heap.size + 1 + 1 + 1, 0, none⟩))] a' := hf'.sub ⟨rfl, rfl, rfl, rfl, trivial⟩
 clear hf'
 have hL := ((((Laid.nil w).snoc (.cells #[.pointer (some ⟨wb, 0, none⟩)] 75)).snoc (.map #[] 0)).snoc (.cells #[.map (some (w.heap.size + 1))] 113)).snoc (.cells #[.func (.func 78) #[] #[.pointer (some ⟨w.heap.size, 0, none⟩), .pointer (some ⟨w.heap.size + 1 + 1, 0, none⟩), .pointer (some ⟨w.heap.size + 1 + 1 + 1, 0, none⟩)]] 114)
 generalize ((((w.alloc (.cells #[.pointer (some ⟨wb, 0, none⟩)] 75)).alloc (.map #[] 0)).alloc (.cells #[.map (some (w.heap.size + 1))] 113)).alloc (.cells #[.func (.func 78) #[] #[.pointer (some ⟨w.heap.size, 0, none⟩), .pointer (some ⟨w.heap.size + 1 + 1, 0, none⟩), .pointer (some ⟨w.heap.size + 1 + 1 + 1, 0, none⟩)]] 114)) = W4 at hL ⊢
 have hs4 : W4.heap.size = w.heap.size + 4 := hL.size
 have hb4 := hL.below
 have g0 := hL.heap (i := 0) rfl
 have g1 := hL.heap (i := 1) rfl
 have g2 := hL.heap (i := 2) rfl
 have g3 := hL.heap (i := 3) rfl
 have hwa := HWA.out
 have hk : WhyAt w W4 w.heap.size (w.heap.size + 1 + 1) (w.heap.size + 1 + 1 + 1) wb b r h g rr (w.heap.size + 1) A0 c0 l0 m ed hs gs o (.slice A5 o.length c5) :=
  ⟨hb4, by omega, g0, g2, g3, hwa.below hb4, by have := hwa.book.map.lt; have := hwa.held.lt; have := hwa.given.lt; have := hwa.reasons.lt; omega⟩
 have hm4 : H.MapAt H.encI W4 (w.heap.size + 1) (setI []) := g1
 have HC := Aside0.mk (want_calls w w.heap.size (w.heap.size + 1 + 1) (w.heap.size + 1 + 1 + 1) wb b r h g rr (w.heap.size + 1) A0 c0 l0 m ed hs gs o (.slice A5 o.length c5) HR0.out hn ho k claim [] U W4 hk hm4 HUU.out)
 have hf4 := cell_of g3
 have he78 := enters78
 have hk5 := hk.put hm4 (setI U)
 have hm5 : H.MapAt H.encI (putMap H.encI W4 (w.heap.size + 1) (setI U)) (w.heap.size + 1) (setI U) := hm4.put _
 obtain ⟨W5, hW5⟩ : ∃ W5, W5 = putMap H.encI W4 (w.heap.size + 1) (setI U) := ⟨_, rfl⟩
 rw [← hW5] at hk5 hm5
 have HK5 := Aside0.mk hk5
 have HM5 := Aside0.mk hm5
 have HW5 := Aside0.mk hW5
 clear hk5 hm5 hW5 hL hb4 g0 g1 g2 g3 hwa hk hm4 hs4
 refine wpIn_seq ?_
 refine wpIn_region_k (fun _ => trivial) rfl wideC HF fun K hK => ?_
 iterate 3 (refine OpsK.step rfl rfl rfl ?_; go_simp)
 refine HC.out.mono ?_
 rintro e w5 ⟨rfl, hw5⟩
 rw [← HW5.out] at hw5
 subst hw5
 dsimp only
 refine OpsK.nil (hK _ _ fun a' hf' => ?_)
 clear hK K HF
 have HF : Fr 33 [] [(1, .string claim), (2, .pointer (some ⟨w.heap.size, 0, none⟩)), (5, .pointer (some ⟨w.heap.size + 1 + 1, 0, none⟩)), (6, .pointer (some ⟨w.heap.size + 1 + 1 + 1, 0, none⟩))] a' := hf'.sub ⟨rfl, rfl, rfl, rfl, trivial⟩
 clear hf'
 have hs5 : w.heap.size ≤ w5.heap.size := HK5.out.below.size
 have hvc := cell_of HK5.out.hv
 have huc := cell_of HK5.out.hu
 obtain ⟨y0, y1, y2, y3, y4, y5, y6⟩ := HK5.out.wat.cells
 clear hf4 he78 hmk hmf
 refine wpIn_seq ?_
 refine wpIn_region_k (fun _ => trivial) rfl wideC HF fun K hK => ?_
 refine OpsK.step rfl rfl rfl ?_
 go_simp
 refine OpsK.nil (hK _ _ fun a' hf' => ?_)
 clear hK K HF
 have HF : Fr 33 [] [(1, .string claim), (2, .pointer (some ⟨w.heap.size, 0, none⟩)), (5, .pointer (some ⟨w.heap.size + 1 + 1, 0, none⟩)), (6, .pointer (some ⟨w.heap.size + 1 + 1 + 1, 0, none⟩)), (7, .slice none 0 0)] a' := hf'.sub ⟨rfl, rfl, rfl, rfl, rfl, trivial⟩
 clear hf'
 refine wpIn_seq (wpIn_seq ?_)
 refine wpIn_region_k (fun _ => trivial) rfl wideC HF fun K hK => ?_
 iterate 6 (refine OpsK.step rfl rfl rfl ?_; go_simp)
 refine OpsK.nil (hK _ _ fun a' hf' => ?_)
 clear hK K HF
 have HF : Fr 33 [] [(5, .pointer (some ⟨w.heap.size + 1 + 1, 0, none⟩)), (18, .slice A5 o.length c5), (19, .int .i64 (o.length : Nat)), (7, .slice none 0 0), (20, .int .i64 0)] a' := hf'.sub ⟨rfl, rfl, rfl, rfl, rfl, trivial⟩
 clear hf'
 refine wpIn_block (wpIn_loop (fun a wr => ∃ (j : Nat) (v : Value), j ≤ o.length ∧ Fr 33 [] [(5, .pointer (some ⟨w.heap.size + 1 + 1, 0, none⟩)), (18, .slice A5 o.length c5), (19, .int .i64 (o.length : Nat)), (7, v), (20, .int .i64 (j : Nat))] a ∧ Kd.R (Kd.int .i64) 3 wr w5.heap.size (fun _ => True) v (ints ((o.take j).filter U.contains)) ∧ Below w5.heap.size w5 wr)
  (fun a _ => o.length - (intOf (a.eval (.tmp 20))).toNat) ⟨0, .slice none 0 0, Nat.zero_le _, HF, Kd.R_nil _ _ _ _ _, Below.refl _ _⟩ ?_)
 clear HF hvc huc y0 y1 y2 y3 y4 y5 y6
 rintro a wr ⟨j, v, hj, HF, hrv, hbr⟩
 have hmu : o.length - (intOf (a.eval (.tmp 20))).toNat = o.length - j := by rw [HF.tmp (k := 20) rfl]; simp [intOf]
 rw [hmu]
 clear hmu
 have HRV := Aside0.mk hrv
 have hsr := hbr.size
 have HBR := Aside0.mk hbr
 clear hrv hbr
 refine wpIn_seq ?_
 by_cases hjl : j < o.length
 ·have hlt : ((j : Nat) : Int) < ((o.length : Nat) : Int) := by omega
  have hbw : Below w.heap.size w wr := below_then HK5.out.below hs5 HBR.out
  obtain ⟨ad, hA, hc⟩ := Kd.at_int (Kd.C_below HROW.out hbw) (j : Int) (by omega) (by omega)
  cases hA
  simp only [Int.toNat_natCast] at hc
  rw [rd_ints o hjl] at hc
  obtain ⟨i, hi⟩ : ∃ i, i = o[j] := ⟨_, rfl⟩
  rw [← hi] at hc
  have huc := cell_of ((HBR.out.block (w.heap.size + 1 + 1) (Array.getElem?_eq_some_iff.1 HK5.out.hu).1).trans HK5.out.hu)
  have hmr : H.MapAt H.encI wr (w.heap.size + 1) (setI U) := HM5.out.below HBR.out HM5.out.lt
  have hlk := run_lookup_at (P := Tryz.prog) keyI Tryz.underlying113 Tryz.underlying3 hmr zero4 (i : Int)
  obtain ⟨cu, hcu⟩ : ∃ cu, U.contains i = cu := ⟨_, rfl⟩
  rw [setI_bool, hcu] at hlk
  simp only [H.encI] at hlk
  have htake : (o.take (j + 1)).filter U.contains = (o.take j).filter U.contains ++ (if cu then [i] else []) := by
   rw [← List.take_append_getElem hjl, List.filter_append, ← hi]
   congr 1
   simp only [List.filter_cons, List.filter_nil, hcu]
  have HTK := Aside0.mk htake
  have hwJ := wrapJ (j := j) (by omega)
  have HWJ := Aside0.mk hwJ
  have HBW := Aside0.mk hbw
  clear hcu hi htake hwJ hbw hmr
  refine wpIn_region_k (fun _ => trivial) rfl wideC HF fun K hK => ?_
  refine OpsK.step rfl rfl rfl ?_
  go_simp
  refine OpsK.nil (hK _ _ fun a' hf' => ?_)
  clear hK K HF
  have HF : Fr 33 [] [(5, .pointer (some ⟨w.heap.size + 1 + 1, 0, none⟩)), (18, .slice (some ad) o.length c5), (19, .int .i64 (o.length : Nat)), (7, v), (20, .int .i64 (j : Nat)), (21, .bool true)] a' := hf'.sub ⟨rfl, rfl, rfl, rfl, rfl, rfl, trivial⟩
  clear hf'
  refine wpIn_seq (wpIn_cond_true (HF.tmp rfl) (wpIn_skip ?_))
  refine wpIn_seq (wpIn_block (wpIn_seq ?_))
  refine wpIn_region_k (fun _ => trivial) rfl wideC HF fun K hK => ?_
  iterate 3 (refine OpsK.step rfl rfl rfl ?_; go_simp)
  refine OpsK.nil (hK _ _ fun a' hf' => ?_)
  clear hK K HF
  have HF : Fr 33 [] [(5, .pointer (some ⟨w.heap.size + 1 + 1, 0, none⟩)), (18, .slice (some ad) o.length c5), (19, .int .i64 (o.length : Nat)), (7, v), (20, .int .i64 (j : Nat)), (9, .int .i64 (i : Nat))] a' := hf'.sub ⟨rfl, rfl, rfl, rfl, rfl, rfl, trivial⟩
  clear hf'
  refine wpIn_seq ?_
  refine wpIn_region_k (fun _ => trivial) rfl wideC HF fun K hK => ?_
  iterate 3 (refine OpsK.step rfl rfl rfl ?_; go_simp)
  refine OpsK.nil (hK _ _ fun a' hf' => ?_)
  clear hK K HF
  have HF : Fr 33 [] [(5, .pointer (some ⟨w.heap.size + 1 + 1, 0, none⟩)), (18, .slice (some ad) o.length c5), (19, .int .i64 (o.length : Nat)), (7, v), (20, .int .i64 (j : Nat)), (9, .int .i64 (i : Nat)), (26, .bool cu)] a' := hf'.sub ⟨rfl, rfl, rfl, rfl, rfl, rfl, rfl, trivial⟩
  clear hf'
  cases cu with
  | false =>
   refine wpIn_cond_false (HF.tmp rfl) (wpIn_skip ?_)
   show Code.wpIn _ _ _ (Code.region 11 _ _) _ _ _
   refine wpIn_region_k (fun _ => trivial) rfl wideC HF fun K hK => ?_
   iterate 2 (refine OpsK.step rfl rfl rfl ?_; go_simp)
   refine OpsK.nil (hK _ _ fun a3 hf' => ?_)
   clear hK K HF
   rw [HWJ.out] at hf'
   have HF : Fr 33 [] [(5, .pointer (some ⟨w.heap.size + 1 + 1, 0, none⟩)), (18, .slice (some ad) o.length c5), (19, .int .i64 (o.length : Nat)), (7, v), (20, .int .i64 ((j + 1 : Nat) : Int))] a3 := hf'.sub ⟨rfl, rfl, rfl, rfl, rfl, trivial⟩
   clear hf'
   refine ⟨⟨j + 1, v, by omega, HF, by rw [HTK.out]; exact (by rw [if_neg (by simp), List.append_nil]; exact HRV.out), HBR.out⟩, ?_⟩
   rw [HF.tmp (k := 20) rfl]
   simp only [intOf]
   omega
  | true =>
   have hlr : (ints ((o.take j).filter U.contains)).length ≤ 64 := by rw [ints_len]; have := List.length_filter_le U.contains (o.take j); rw [List.length_take] at this; omega
   obtain ⟨v1, w2, hap, hrow2, hg, hat, A9, n9, k9, hv9⟩ := run_R_append (Kd.int .i64) (P := Tryz.prog) (W := wr) w5.heap.size 37 37 3 (.int .i64 0) 8 Tryz.underlying37 info3 rfl (by decide) (by decide) v (ints ((o.take j).filter U.contains)) (i : Int) [.int .i64 (i : Nat)] (fun _ => True) (fun _ => False) rfl (fun _ hk => hk.elim) (fun _ _ => trivial) HRV.out hsr (by omega)
   have hb2 : Below w5.heap.size w5 w2 := HBR.out.grown hg hsr (own_base' HRV.out)
   rw [← ints_snoc] at hrow2
   have HB2 := Aside0.mk hb2
   have HR2 := Aside0.mk hrow2
   clear hb2 hrow2 hg hat hlr hv9
   refine wpIn_cond_true (HF.tmp rfl) ?_
   refine wpIn_region_k (fun _ => trivial) rfl wideC HF fun K hK => ?_
   iterate 3 (refine OpsK.step rfl rfl rfl ?_; go_simp)
   refine OpsK.step rfl rfl rfl ?_
   simp only [execOp, resolve, invoke, builtin, Sem.run_bind, Sem.run_pure, Result.andThen_ok, List.map_toArray, List.map_cons, List.map_nil, slk, sget, sput, ↓reduceIte, Nat.reduceEqDiff, Option.getD_some, hap, uponK_value]
   refine OpsK.step rfl rfl rfl ?_
   go_simp
   refine OpsK.nil (hK _ _ fun a' hf' => ?_)
   clear hK K HF
   have HF : Fr 33 [] [(5, .pointer (some ⟨w.heap.size + 1 + 1, 0, none⟩)), (18, .slice (some ad) o.length c5), (19, .int .i64 (o.length : Nat)), (7, v1), (20, .int .i64 (j : Nat))] a' := hf'.sub ⟨rfl, rfl, rfl, rfl, rfl, trivial⟩
   clear hf'
   show Code.wpIn _ _ _ (Code.region 11 _ _) _ _ _
   refine wpIn_region_k (fun _ => trivial) rfl wideC HF fun K hK => ?_
   iterate 2 (refine OpsK.step rfl rfl rfl ?_; go_simp)
   refine OpsK.nil (hK _ _ fun a3 hf' => ?_)
   clear hK K HF
   rw [HWJ.out] at hf'
   have HF : Fr 33 [] [(5, .pointer (some ⟨w.heap.size + 1 + 1, 0, none⟩)), (18, .slice (some ad) o.length c5), (19, .int .i64 (o.length : Nat)), (7, v1), (20, .int .i64 ((j + 1 : Nat) : Int))] a3 := hf'.sub ⟨rfl, rfl, rfl, rfl, rfl, trivial⟩
   clear hf'
   refine ⟨⟨j + 1, v1, by omega, HF, by rw [HTK.out]; exact HR2.out, HB2.out⟩, ?_⟩
   rw [HF.tmp (k := 20) rfl]
   simp only [intOf]
   omega
 ·obtain rfl : j = o.length := by omega
  have hnlt : ¬ ((o.length : Nat) : Int) < ((o.length : Nat) : Int) := by omega
  refine wpIn_region_k (fun _ => trivial) rfl wideC HF fun K hK => ?_
  refine OpsK.step rfl rfl rfl ?_
  go_simp
  refine OpsK.nil (hK _ _ fun a' hf' => ?_)
  clear hK K HF
  have HF : Fr 33 [] [(7, v), (21, .bool false)] a' := hf'.sub ⟨rfl, rfl, trivial⟩
  clear hf'
  refine wpIn_seq (wpIn_cond_false (HF.tmp rfl) (wpIn_exit ?_))
  simp only [Exit.then, Exit.inBlock, ↓reduceIte]
  refine wpIn_seq ?_
  refine wpIn_region_k (fun _ => trivial) rfl wideC HF fun K hK => ?_
  iterate 2 (refine OpsK.step rfl rfl rfl ?_; go_simp)
  refine OpsK.nil (hK _ _ fun a' hf' => ?_)
  clear hK K HF
  have HF : Fr 33 [] [(4, v)] a' := hf'.sub ⟨rfl, trivial⟩
  clear hf'
  refine wpIn_ret (HF.ret1 rfl rfl ⟨v, rfl, ?_, below_then HK5.out.below hs5 HBR.out⟩)
  have := HRV.out
  rw [List.take_length] at this
  exact Kd.R_lower this hs5
end
end Go.Proofs.YtlhkeohcickiaaaGreatDoor.E
namespace Go.Proofs.YtlhkeohcickiaaaGreatDoor.L
open Go.Proofs
section
open Go.Shelf
def Tryz.clone82_ren : Go.Shelf.Ren := ⟨fun | 5 => 82 | 7 => 99 | n => n, fun | 23 => 71 | 25 => 9 | 3 => 4 | 4 => 4 | 20 => 20 | n => n, fun | n => n⟩
theorem Tryz.clone82 : Go.Proofs.SlLaysW.n5 Tryz.prog Tryz.clone82_ren := {
 mixed := by kernel_rfl
 f5 := ⟨Tryz.f82.name, by decide, Tryz.func82.trans (congrArg some (by kernel_rfl))⟩
 f7 := Tryz.func99.trans (congrArg some (by kernel_rfl))
 t4 := Tryz.underlying4
 a4 := Tryz.isAgg4
 z4 := Tryz.sizeOf4
 v4 := Tryz.zeroValue4
 t20 := Tryz.underlying20
 a20 := Tryz.isAgg20
 z20 := Tryz.sizeOf20
 v20 := Tryz.zeroValue20
 t23 := Tryz.underlying71
 a23 := Tryz.isAgg71
 z23 := Tryz.sizeOf71
 v23 := Tryz.zeroValue71 }
def Tryz.lays169_ren : Go.Shelf.Ren := ⟨fun | 169 => 67 | n => n, fun | 70 => 89 | 9 => 9 | 0 => 0 | 72 => 92 | 37 => 90 | 127 => 119 | 3 => 3 | 5 => 5 | n => n, fun | n => n⟩
theorem Tryz.lays169 : Go.Proofs.Lays.n169 Tryz.prog Tryz.lays169_ren := {
 mixed := by kernel_rfl
 f169 := Tryz.func67.trans (congrArg some (by kernel_rfl))
 t0 := Tryz.underlying0
 a0 := Tryz.isAgg0
 z0 := Tryz.sizeOf0
 v0 := Tryz.zeroValue0
 t3 := Tryz.underlying3
 a3 := Tryz.isAgg3
 z3 := Tryz.sizeOf3
 v3 := Tryz.zeroValue3
 t9 := Tryz.underlying9
 a9 := Tryz.isAgg9
 z9 := Tryz.sizeOf9
 v9 := Tryz.zeroValue9
 t37 := Tryz.underlying90
 a37 := Tryz.isAgg90
 z37 := Tryz.sizeOf90
 v37 := Tryz.zeroValue90
 t70 := Tryz.underlying89
 a70 := Tryz.isAgg89
 z70 := Tryz.sizeOf89
 v70 := Tryz.zeroValue89
 t72 := Tryz.underlying92
 a72 := Tryz.isAgg92
 z72 := Tryz.sizeOf92
 v72 := Tryz.zeroValue92
 t127 := Tryz.underlying119
 a127 := Tryz.isAgg119
 z127 := Tryz.sizeOf119
 v127 := Tryz.zeroValue119 }
def Tryz.lays156_ren : Go.Shelf.Ren := ⟨fun | 156 => 66 | 165 => 85 | 166 => 65 | 169 => 67 | 240 => 84 | 241 => 101 | 276 => 100 | 277 => 110 | n => n, fun | 31 => 23 | 9 => 9 | 3 => 3 | 4 => 4 | 0 => 0 | 20 => 20 | 72 => 92 | 76 => 95 | 70 => 89 | 37 => 90 | 75 => 94 | 127 => 119 | 164 => 130 | 5 => 5 | 80 => 98 | n => n, fun | n => n⟩
theorem Tryz.lays156 : Go.Proofs.Lays.n156 Tryz.prog Tryz.lays156_ren := {
 mixed := by kernel_rfl
 f156 := Tryz.func66.trans (congrArg some (by kernel_rfl))
 f165 := Tryz.func85.trans (congrArg some (by kernel_rfl))
 f166 := Tryz.func65.trans (congrArg some (by kernel_rfl))
 f169 := Tryz.func67.trans (congrArg some (by kernel_rfl))
 f240 := Tryz.func84.trans (congrArg some (by kernel_rfl))
 f241 := Tryz.func101.trans (congrArg some (by kernel_rfl))
 f276 := Tryz.func100.trans (congrArg some (by kernel_rfl))
 f277 := Tryz.func110.trans (congrArg some (by kernel_rfl))
 t0 := Tryz.underlying0
 a0 := Tryz.isAgg0
 z0 := Tryz.sizeOf0
 v0 := Tryz.zeroValue0
 t3 := Tryz.underlying3
 a3 := Tryz.isAgg3
 z3 := Tryz.sizeOf3
 v3 := Tryz.zeroValue3
 t4 := Tryz.underlying4
 a4 := Tryz.isAgg4
 z4 := Tryz.sizeOf4
 v4 := Tryz.zeroValue4
 t9 := Tryz.underlying9
 a9 := Tryz.isAgg9
 z9 := Tryz.sizeOf9
 v9 := Tryz.zeroValue9
 t20 := Tryz.underlying20
 a20 := Tryz.isAgg20
 z20 := Tryz.sizeOf20
 v20 := Tryz.zeroValue20
 t31 := Tryz.underlying23
 a31 := Tryz.isAgg23
 z31 := Tryz.sizeOf23
 v31 := Tryz.zeroValue23
 t37 := Tryz.underlying90
 a37 := Tryz.isAgg90
 z37 := Tryz.sizeOf90
 v37 := Tryz.zeroValue90
 t70 := Tryz.underlying89
 a70 := Tryz.isAgg89
 z70 := Tryz.sizeOf89
 v70 := Tryz.zeroValue89
 t72 := Tryz.underlying92
 a72 := Tryz.isAgg92
 z72 := Tryz.sizeOf92
 v72 := Tryz.zeroValue92
 t75 := Tryz.underlying94
 a75 := Tryz.isAgg94
 z75 := Tryz.sizeOf94
 v75 := Tryz.zeroValue94
 t76 := Tryz.underlying95
 a76 := Tryz.isAgg95
 z76 := Tryz.sizeOf95
 v76 := Tryz.zeroValue95
 t127 := Tryz.underlying119
 a127 := Tryz.isAgg119
 z127 := Tryz.sizeOf119
 v127 := Tryz.zeroValue119
 t164 := Tryz.underlying130
 a164 := Tryz.isAgg130
 z164 := Tryz.sizeOf130
 v164 := Tryz.zeroValue130 }
end
end Go.Proofs.YtlhkeohcickiaaaGreatDoor.L

