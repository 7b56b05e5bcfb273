/- Part 25 of 36 of the proof of ProtestProofs: lemmas, without conditions. -/
import Derived.Test.YtlhkeohcickiaaaGreatDoorKP24
import Derived.Test.YtlhkeohcickiaaaGreatDoorKP23
import Derived.Shelf.Strings.BuilderK
import Derived.Shelf.Strings.OnBuilder
set_option linter.all false
namespace Go.Proofs.YtlhkeohcickiaaaGreatDoor.E
open Go.RowKit Go.Proofs.YtlhkeohcickiaaaGreatDoor.H Go.Proofs.YtlhkeohcickiaaaGreatDoorW.PrintWords Go.Proofs.YtlhkeohcickiaaaGreatDoorW.PrintLast Go.Proofs.YtlhkeohcickiaaaGreatDoorW.PrintMore
section
open Prot (heldOf roundL roundP addL addOne mkLevel mkLevels at_ firesB Good Fits)
attribute [local go_sem] slk sget sput uponK_value uponK_skip uponK_enter
theorem ext156 : Builder.Extra Tryz.prog L.Tryz.lays156_ren where
 sizeBuilder := by kernel_rfl
 liesBuilder := by kernel_rfl
 t5 := Tryz.underlying5
 a5 := Tryz.isAgg5
 z5 := Tryz.sizeOf5
 v5 := Tryz.zeroValue5
 infoByte := by kernel_rfl
 cellsByte := by kernel_rfl
 sizeByte := by kernel_rfl
 neB5 := by decide
theorem ext169 : Builder.Extra Tryz.prog L.Tryz.lays169_ren where
 sizeBuilder := by kernel_rfl
 liesBuilder := by kernel_rfl
 t5 := Tryz.underlying5
 a5 := Tryz.isAgg5
 z5 := Tryz.sizeOf5
 v5 := Tryz.zeroValue5
 infoByte := by kernel_rfl
 cellsByte := by kernel_rfl
 sizeByte := by kernel_rfl
 neB5 := by decide
theorem write65 (B b : Nat) (l : List UInt8) (s : ByteArray) (w : World) (h : Lib.IsBuilderF 92 5 B b (Lib.byteCells l) w) (hlen : l.length + s.size ≤ 1000000) (hBw : B ≤ w.heap.size) :
  Calls Tryz.prog 65 #[.pointer (some ⟨b, 0, none⟩), .string s] w fun e w' => (∃ v, e = .returned v) ∧ Lib.IsBuilderF 92 5 B b (Lib.byteCells (l ++ s.data.toList)) w' ∧ Below B w w' ∧ Lib.OthersKept 5 (some b) w w' := by
 refine (Any.Builder_WriteString_k (ρ := L.Tryz.lays156_ren) { L.Tryz.lays156 with } ext156 B b (Lib.byteCells l) s w h (by rw [Lib.byteCells_length]; omega) hBw).mono ?_
 rintro e w' ⟨rfl, h1, h2, h3⟩
 refine ⟨⟨_, rfl⟩, ?_, h2, h3⟩
 have : Lib.byteCells (l ++ s.data.toList) = Lib.byteCells l ++ Lib.strCells s := by simp [Lib.byteCells, Lib.strCells]
 rw [this]
 exact .inr h1
theorem builder_below {T e : TypeId} {B b : Nat} {bs : List Value} {w w' : World} (h : Lib.IsBuilderF T e B b bs w) (hb : Below w.heap.size w w') : Lib.IsBuilderF T e B b bs w' := by
 have key : ∀ p, Lib.BuilderAtF T e B b p bs w → Lib.BuilderAtF T e B b p bs w' := by
  rintro p ⟨h1, v, h2, ⟨h3, h4⟩, h5⟩
  refine ⟨h1, v, (hb.block b (Array.getElem?_eq_some_iff.1 h2).1).trans h2, ⟨h3, ?_⟩, h5⟩
  rcases h4 with h4 | ⟨g, cap, cur, fz, e1, e2, e3, e4⟩
  ·exact .inl h4
  ·exact .inr ⟨g, cap, cur, fz, e1, e2, (hb.block g (Array.getElem?_eq_some_iff.1 e3).1).trans e3, e4⟩
 exact h.imp (key _) (key _)
theorem string67 (B b : Nat) (l : List UInt8) (w : World) (h : Lib.IsBuilderF 92 5 B b (Lib.byteCells l) w) (hBw : B ≤ w.heap.size) :
  Calls Tryz.prog 67 #[.pointer (some ⟨b, 0, none⟩)] w fun e w' => e = .returned (.string ⟨l.toArray⟩) ∧ Below B w w' :=
 (Any.Builder_String_any_k L.Tryz.lays169 ext169 B b l w h hBw).mono fun e w' ⟨h1, _, h2, _⟩ => ⟨h1, h2⟩
theorem join_length (xs : List (List UInt8)) (sep : List UInt8) (n : Nat) (h : ∀ x ∈ xs, x.length ≤ n) : (Lib.join xs sep).length ≤ xs.length * (n + sep.length) := by
 unfold Lib.join
 induction xs with
 | nil => simp
 | cons x l ih =>
  have h1 := h x List.mem_cons_self
  have h2 := ih fun y hy => h y (List.mem_cons_of_mem _ hy)
  cases l with
  | nil => simp [List.intercalate, List.intersperse]; omega
  | cons y l =>
   have e : sep.intercalate (x :: y :: l) = x ++ (sep ++ sep.intercalate (y :: l)) := by simp [List.intercalate, List.intersperse]
   rw [e, List.length_append, List.length_append]
   simp only [List.length_cons] at h2 ⊢
   have : (l.length + 1 + 1) * (n + sep.length) = (l.length + 1) * (n + sep.length) + (n + sep.length) := by rw [Nat.add_mul (l.length + 1) 1, Nat.one_mul]
   omega
theorem plain_addr {w : World} {a : Addr} {v : Value} (h : w.cell? a = some v) : a = ⟨a.block, a.off, none⟩ := by
 obtain ⟨b, o, s⟩ := a
 cases s with
 | none => rfl
 | some x => simp [World.cell?] at h; split at h <;> simp_all
theorem join66 (A : Option Addr) (c : Nat) (xs : List ByteArray) (w : World) (hr : Kd.C Kd.string w A xs.length xs) (hc : xs.length ≤ c) (h0 : 0 < xs.length) (h8 : xs.length ≤ 8) (hs : ∀ s ∈ xs, s.size ≤ 32) :
  Calls Tryz.prog 66 #[.slice A xs.length c, .string ⟨#[44, 32]⟩] w fun e w' => e = .returned (.string ⟨(Lib.join (xs.map (·.data.toList)) [44, 32]).toArray⟩) ∧ Below w.heap.size w w' := by
 obtain ⟨ad, rfl, hc0⟩ := Kd.at_string hr 0 (Int.le_refl _) (by omega)
 have hp : ad = ⟨ad.block, ad.off, none⟩ := by
  have : ad.add (0 : Int).toNat = ad := by unfold Addr.add; cases ad.spot <;> simp
  rw [this] at hc0
  exact plain_addr hc0
 obtain ⟨bk, o, sp⟩ := ad
 cases hp
 refine Any.strings_Join L.Tryz.lays156 ext156 bk o c xs ⟨#[44, 32]⟩ w (fun j x hx => ?_) (World.block_lt_of_cell? w _ hc0) (by omega) hc ?_
 ·have hj := (List.getElem?_eq_some_iff.1 hx).1
  obtain ⟨ad, e, hcj⟩ := Kd.at_string hr (j : Int) (by omega) (by omega)
  cases e
  rw [Int.toNat_natCast] at hcj
  have : (⟨bk, o, none⟩ : Addr).add j = ⟨bk, o + j, none⟩ := by unfold Addr.add; split <;> simp_all
  rw [this] at hcj
  rw [hcj]
  simp [rdOf, List.getD_eq_getElem?_getD, hx]
 ·have := join_length (xs.map (·.data.toList)) [44, 32] 32 (fun x hx => by
   obtain ⟨s, hsm, rfl⟩ := List.mem_map.1 hx
   have := hs s hsm
   simpa using this)
  rw [List.length_map] at this
  have e : (⟨#[44, 32]⟩ : ByteArray).data.toList = [44, 32] := rfl
  rw [e]
  simp only [List.length_cons, List.length_nil] at this
  omega
def partOf (pre : List UInt8) (l : List ByteArray) : List UInt8 := if 0 < l.length then pre ++ Lib.join (l.map (·.data.toList)) [44, 32] else []
def lineOf (x : S25) : List UInt8 := x.f0.data.toList ++ [58, 32] ++ x.f5.data.toList ++ partOf [32, 105, 102, 32] x.f3 ++ partOf [32, 117, 110, 108, 101, 115, 115, 32] x.f4 ++ [10]
def linesOf (l0 : List S25) (sl : List Nat) : List UInt8 := sl.flatMap fun i => lineOf (l0.getD i z25)
def textOf (l0 : List S25) (steps : List Int) : Except (Int × Int) ByteArray := match boundOf l0 with
 | .error p => .error p
 | .ok _ => if indexB l0.length steps then .ok ⟨(linesOf l0 (steps.map Int.toNat)).toArray⟩ else .error (-1, 4)
theorem ok_parts {x : S25} (h : okC x = true) : x.f0.size ≤ 32 ∧ x.f5.size ≤ 32 ∧ (x.f3.length ≤ 8 ∧ ∀ s ∈ x.f3, s.size ≤ 32) ∧ (x.f4.length ≤ 8 ∧ ∀ s ∈ x.f4, s.size ≤ 32) := by
 unfold okC okB at h
 simp only [Bool.and_eq_true] at h
 obtain ⟨⟨h3, h4, _⟩, h0, h5, _⟩ := h
 obtain ⟨a3, b3⟩ := rising_names h3
 obtain ⟨a4, b4⟩ := rising_names h4
 exact ⟨name_size h0, name_size h5, ⟨by omega, fun s hs => name_size (a3 s hs)⟩, ⟨by omega, fun s hs => name_size (a4 s hs)⟩⟩
theorem part_length (pre : List UInt8) (l : List ByteArray) (h8 : l.length ≤ 8) (hs : ∀ s ∈ l, s.size ≤ 32) : (partOf pre l).length ≤ pre.length + 272 := by
 unfold partOf
 split
 ·have := join_length (l.map (·.data.toList)) [44, 32] 32 (fun x hx => by
   obtain ⟨s, hsm, rfl⟩ := List.mem_map.1 hx
   have := hs s hsm
   simpa using this)
  rw [List.length_map] at this
  simp only [List.length_cons, List.length_nil, List.length_append] at this ⊢
  omega
 ·simp
theorem line_length {x : S25} (h : okC x = true) : (lineOf x).length ≤ 1000 := by
 obtain ⟨h0, h5, ⟨h3, s3⟩, h4, s4⟩ := ok_parts h
 have p3 := part_length [32, 105, 102, 32] x.f3 h3 s3
 have p4 := part_length [32, 117, 110, 108, 101, 115, 115, 32] x.f4 h4 s4
 have e0 : x.f0.data.toList.length = x.f0.size := by rw [Array.length_toList]; rfl
 have e5 : x.f5.data.toList.length = x.f5.size := by rw [Array.length_toList]; rfl
 simp only [lineOf, List.length_append, List.length_cons, List.length_nil] at p3 p4 ⊢
 omega
theorem lines_length (l0 : List S25) (h : ∀ x ∈ l0, okC x = true) : ∀ (sl : List Nat), (∀ i ∈ sl, i < l0.length) → (linesOf l0 sl).length ≤ sl.length * 1000
 | [], _ => by simp [linesOf]
 | i :: sl, hi => by
  have h1 := lines_length l0 h sl fun j hj => hi j (List.mem_cons_of_mem _ hj)
  have hil := hi i List.mem_cons_self
  have h2 : (lineOf (l0.getD i z25)).length ≤ 1000 := line_length (h _ (by rw [List.getD_eq_getElem?_getD, List.getElem?_eq_getElem hil]; exact List.getElem_mem hil))
  simp only [linesOf, List.flatMap_cons, List.length_append, List.length_cons] at h1 ⊢
  omega
theorem lines_snoc (l0 : List S25) (sl : List Nat) {j : Nat} (h : j < sl.length) : linesOf l0 (sl.take (j + 1)) = linesOf l0 (sl.take j) ++ lineOf (l0.getD sl[j] z25) := by
 unfold linesOf
 rw [← List.take_append_getElem h, List.flatMap_append]
 simp
set_option maxRecDepth 100000 in
set_option maxHeartbeats 2000000 in
theorem text_question (lb stb sb : Nat) (A0 : Option Addr) (c0 : Nat) (l0 : List S25) (A3 : Option Addr) (c3 : Nat) (steps : List Int) (n0 : ByteArray) (w : World) (hl : w.heap[lb]? = some (.cells #[.slice A0 l0.length c0] 22 (0, 0))) (hst : w.heap[stb]? = some (.cells #[.slice A3 steps.length c3] 37 (0, 0))) (hs : w.heap[sb]? = some (.cells #[.string n0] 9 (0, 0)))
  (hr0 : Kd.C k25 w A0 l0.length l0) (hc0 : l0.length ≤ c0) (hr3 : (Kd.int .i64).C w A3 steps.length steps) (hlen : steps.length ≤ 500) :
  Calls Tryz.prog 64 #[.pointer (some ⟨lb, 0, none⟩), .pointer (some ⟨stb, 0, none⟩), .pointer (some ⟨sb, 0, none⟩)] w (QPost w sb (textOf l0 steps) fun _ v s => v = .string s) := by
 have HR0 := Aside0.mk hr0
 have HR3 := Aside0.mk hr3
 have HST := Aside0.mk hst
 have HSB := Aside0.mk hs
 have lt : ∀ {j : Nat} {o : Obj}, w.heap[j]? = some o → j < w.heap.size := fun h => (Array.getElem?_eq_some_iff.1 h).1
 have hsl := lt hs
 have hl0 := cell_of hl
 clear hr0 hr3 hl hst hs
 refine callsK (args := [.pointer (some ⟨lb, 0, none⟩), .pointer (some ⟨stb, 0, none⟩), .pointer (some ⟨sb, 0, none⟩)]) Tryz.func64 rfl Tryz.ntmps64 (by simp) fun a HF0 => ?_
 have HF : Fr 54 [] [(0, .pointer (some ⟨lb, 0, none⟩)), (1, .pointer (some ⟨stb, 0, none⟩)), (2, .pointer (some ⟨sb, 0, none⟩))] a := HF0
 clear HF0
 refine wpIn_seq ?_
 refine wpIn_region_p (fun _ => trivial) rfl wideC HF fun K Pn hK hPn => ?_
 iterate 2 (refine OpsK.step rfl rfl rfl ?_; go_simp)
 refine (bound_calls A0 c0 l0 w HR0.out hc0).mono ?_
 rintro e w1 ⟨hb1, hp⟩
 cases hbo : boundOf l0 with
 | error p =>
  obtain ⟨x, y⟩ := p
  rw [hbo] at hp
  cases hp
  exact hPn _ _ fun a' hd => ⟨hd, w1, hb1, by unfold textOf; rw [hbo]; exact ⟨rfl, rfl⟩⟩
 | ok m =>
  rw [hbo] at hp
  obtain ⟨b, r, rfl, hbk, _, _⟩ := hp
  have hob := okBook hbo
  have HBO := Aside0.mk hbo
  have HOB := Aside0.mk hob
  have HBK := Aside0.mk hbk
  have HB1 := Aside0.mk hb1
  clear hbo hob hbk hb1
  dsimp only
  refine OpsK.step rfl rfl rfl ?_
  go_simp
  refine OpsK.nil (hK _ _ fun a' hf' => ?_)
  clear hK K HF hPn Pn hl0
  have HF : Fr 54 [] [(1, .pointer (some ⟨stb, 0, none⟩)), (2, .pointer (some ⟨sb, 0, none⟩)), (3, .pointer (some ⟨b, 0, none⟩))] a' := hf'.sub ⟨rfl, rfl, rfl, trivial⟩
  clear hf'
  have k1 := cell_of ((HB1.out.block stb (lt HST.out)).trans HST.out)
  refine wpIn_seq ?_
  refine wpIn_region_p (fun _ => trivial) rfl wideC HF fun K Pn hK hPn => ?_
  iterate 3 (refine OpsK.step rfl rfl rfl ?_; go_simp)
  refine (index_steps b r A0 c0 l0 m A3 c3 steps w1 HBK.out HOB.out.len (Kd.C_below HR3.out HB1.out)).mono ?_
  rintro e w2 ⟨he2, hb2⟩
  have hw2 : Below w.heap.size w w2 := below_then HB1.out HB1.out.size hb2
  cases hin : indexB l0.length steps with
  | false =>
   rw [hin] at he2
   cases he2
   exact hPn _ _ fun a' hd => ⟨hd, w2, hw2, by unfold textOf; rw [HBO.out]; dsimp only; rw [hin]; exact ⟨rfl, rfl⟩⟩
  | true =>
   rw [hin] at he2
   cases he2
   refine OpsK.nil (hK _ _ fun a' hf' => ?_)
   clear hK K HF hPn Pn
   have HF : Fr 54 [] [(1, .pointer (some ⟨stb, 0, none⟩)), (2, .pointer (some ⟨sb, 0, none⟩)), (3, .pointer (some ⟨b, 0, none⟩))] a' := hf'.sub ⟨rfl, rfl, rfl, trivial⟩
   clear hf' k1
   obtain ⟨hsn, hsx⟩ := ints_toNat hin
   obtain ⟨sl, hslx⟩ : ∃ sl, sl = steps.map Int.toNat := ⟨_, rfl⟩
   rw [← hslx] at hsn hsx
   have hslen : steps.length = sl.length := by rw [hslx, List.length_map]
   have hr32 := Kd.C_below HR3.out hw2
   rw [← hsn] at hr32
   have HANS : Aside0 (textOf l0 steps = .ok ⟨(linesOf l0 sl).toArray⟩) := ⟨by unfold textOf; rw [HBO.out]; dsimp only; rw [hin, hslx]; rfl⟩
   have HBK2 := Aside0.mk (HBK.out.below hb2)
   have HR32 := Aside0.mk hr32
   have HSX := Aside0.mk hsx
   have HW2 := Aside0.mk hw2
   have HSTC := Aside0.mk ((hw2.block stb (lt HST.out)).trans HST.out)
   have hl5 : sl.length ≤ 500 := by omega
   rw [hslen] at HSTC
   clear hsn hsx hslx hr32 hw2 hb2 hin hslen hlen
   refine wpIn_seq ?_
   refine wpIn_region_k (fun _ => trivial) rfl wideC HF fun K hK => ?_
   refine OpsK.step rfl rfl rfl ?_
   go_simp
   refine OpsK.nil (hK _ _ fun a' hf' => ?_)
   clear hK K HF
   have HF : Fr 54 [] [(1, .pointer (some ⟨stb, 0, none⟩)), (2, .pointer (some ⟨sb, 0, none⟩)), (3, .pointer (some ⟨b, 0, none⟩)), (4, .pointer (some ⟨w2.heap.size, 0, none⟩))] a' := hf'.sub ⟨rfl, rfl, rfl, rfl, trivial⟩
   clear hf'
   have hcb : (w2.alloc (.cells #[.pointer none, .slice none 0 0] 92)).heap[w2.heap.size]? = some (.cells #[.pointer none, .slice none 0 0] 92 (0, 0)) := World.alloc_heap_new w2 _
   have hal : Below w2.heap.size w2 (w2.alloc (.cells #[.pointer none, .slice none 0 0] 92)) := (Below.refl _ w2).alloc (Nat.le_refl _) _
   obtain ⟨B, hB⟩ : ∃ B, B = w2.heap.size := ⟨_, rfl⟩
   have hbu : Lib.IsBuilderF 92 5 B B (Lib.byteCells (linesOf l0 (sl.take 0))) (w2.alloc (.cells #[.pointer none, .slice none 0 0] 92)) :=
    Lib.IsBuilderF.of (.inl ⟨Nat.le_refl _, .slice none 0 0, by rw [hB]; exact hcb, own_nil _ _ _ _, by simp [Value.ownBlock]⟩)
   rw [← hB] at HF hal
   generalize w2.alloc (.cells #[.pointer none, .slice none 0 0] 92) = w3 at hbu hal ⊢
   have HB := Aside0.mk hB
   have k1 := cell_of ((hal.block stb (by rw [hB]; have := HW2.out.size; have := lt HST.out; omega)).trans HSTC.out)
   have HBU := Aside0.mk hbu
   have HAL := Aside0.mk hal
   clear hcb hbu hal hB
   refine wpIn_seq (wpIn_seq ?_)
   refine wpIn_region_k (fun _ => trivial) rfl wideC HF fun K hK => ?_
   iterate 3 (refine OpsK.step rfl rfl rfl ?_; go_simp)
   refine OpsK.nil (hK _ _ fun a' hf' => ?_)
   clear hK K HF
   have HF : Fr 54 [] [(2, .pointer (some ⟨sb, 0, none⟩)), (3, .pointer (some ⟨b, 0, none⟩)), (4, .pointer (some ⟨B, 0, none⟩)), (13, .slice A3 sl.length c3), (14, .int .i64 (sl.length : Nat)), (15, .int .i64 0)] a' := hf'.sub ⟨rfl, rfl, rfl, rfl, rfl, rfl, trivial⟩
   clear hf'
   refine wpIn_block (wpIn_loop (fun a wr => ∃ j : Nat, j ≤ sl.length ∧ Fr 54 [] [(2, .pointer (some ⟨sb, 0, none⟩)), (3, .pointer (some ⟨b, 0, none⟩)), (4, .pointer (some ⟨B, 0, none⟩)), (13, .slice A3 sl.length c3), (14, .int .i64 (sl.length : Nat)), (15, .int .i64 (j : Nat))] a ∧ Lib.IsBuilderF 92 5 B B (Lib.byteCells (linesOf l0 (sl.take j))) wr ∧ Below B w2 wr)
    (fun a _ => sl.length - (intOf (a.eval (.tmp 15))).toNat) ⟨0, Nat.zero_le _, HF, HBU.out, HAL.out⟩ ?_)
   clear HF HBU HAL k1
   rintro a wr ⟨j, hj, HF, hbu, hbr⟩
   have hmu : sl.length - (intOf (a.eval (.tmp 15))).toNat = sl.length - j := by rw [HF.tmp (k := 15) rfl]; simp [intOf]
   rw [hmu]
   clear hmu
   have hbr2 : Below w2.heap.size w2 wr := by rw [← HB.out]; exact hbr
   have hsr : B ≤ wr.heap.size := by have := hbr2.size; rw [HB.out]; exact this
   have HBU := Aside0.mk hbu
   have HBR := Aside0.mk hbr
   clear hbu hbr
   refine wpIn_seq ?_
   by_cases hjl : j < sl.length
   ·have hlt : ((j : Nat) : Int) < ((sl.length : Nat) : Int) := by omega
    obtain ⟨ad1, hA1, hc1⟩ := Kd.at_int (Kd.C_below HR32.out hbr2) (j : Int) (by omega) (by rw [ints_len]; omega)
    cases hA1
    simp only [Int.toNat_natCast] at hc1
    rw [rd_ints sl hjl] at hc1
    obtain ⟨i, hi⟩ : ∃ i, i = sl[j] := ⟨_, rfl⟩
    rw [← hi] at hc1
    have hil : i < l0.length := by rw [hi]; exact HSX.out _ (List.getElem_mem hjl)
    have hwr : Below w.heap.size w wr := below_then HW2.out HW2.out.size hbr2
    obtain ⟨ad, A4, c4, A5, c5, hA0, x0, x1, x2, x3, x4, x5, l3, g3, l4, g4⟩ := at_T25 HR0.out (i : Int) (by omega) (by omega)
    simp only [Int.toNat_natCast] at x0 x1 x2 x3 x4 x5
    replace x0 := pw_cell_below hwr x0
    replace x1 := pw_cell_below hwr x1
    replace x2 := pw_cell_below hwr x2
    replace x3 := pw_cell_below hwr x3
    replace x4 := pw_cell_below hwr x4
    replace x5 := pw_cell_below hwr x5
    have hBlt : B < wr.heap.size := by rcases HBU.out with h | h <;> exact h.lt
    have up : ∀ W, Below B w2 W → Below w.heap.size w W := fun W h => below_then HW2.out HW2.out.size (by rw [← HB.out]; exact h)
    have HUP := Aside0.mk up
    clear up
    obtain ⟨x, hx⟩ : ∃ x, x = rd_T25 l0 (i : Int) := ⟨_, rfl⟩
    rw [← hx] at x0 x1 x2 x3 x4 x5 l3 g3 l4 g4
    have hxd : l0.getD i z25 = x := by rw [hx]; rfl
    have hxok : okC x = true := HOB.out.ok _ (by rw [← hxd, List.getD_eq_getElem?_getD, List.getElem?_eq_getElem hil]; exact List.getElem_mem hil)
    have hlines : linesOf l0 (sl.take (j + 1)) = linesOf l0 (sl.take j) ++ lineOf x := by rw [lines_snoc l0 sl hjl, ← hi, hxd]
    have hll : (linesOf l0 (sl.take j)).length ≤ 500000 := by
     have := lines_length l0 HOB.out.ok (sl.take j) (fun i hi => HSX.out i (List.mem_of_mem_take hi))
     rw [List.length_take] at this
     have : min j sl.length ≤ 500 := by omega
     omega
    obtain ⟨q0, q1, q2, q3⟩ := (HBK2.out.below hbr2).cell
    cases A0 with
    | none => cases hA0
    | some ad0 =>
    cases hA0
    have hu25 := Tryz.underlying25
    have HLI : ((i : Nat) : Int) < ((l0.length : Nat) : Int) := by omega
    have HG3 := Aside0.mk g3
    have HG4 := Aside0.mk g4
    have HL3 := Aside0.mk l3
    have HL4 := Aside0.mk l4
    have HOK := Aside0.mk hxok
    have HLN := Aside0.mk hlines
    have HLL := Aside0.mk hll
    have hwJ := wrapJ (j := j) (by omega)
    have HWJ := Aside0.mk hwJ
    have HWR := Aside0.mk hwr
    clear hi hx hxd hxok hlines hll hwr g3 g4 l3 l4 hwJ hbr2
    refine wpIn_region_k (fun _ => trivial) rfl wideC HF fun K hK => ?_
    refine OpsK.step rfl rfl rfl ?_
    go_simp
    refine OpsK.nil (hK _ _ fun a' hf' => ?_)
    clear hK K HF
    have HF : Fr 54 [] [(2, .pointer (some ⟨sb, 0, none⟩)), (3, .pointer (some ⟨b, 0, none⟩)), (4, .pointer (some ⟨B, 0, none⟩)), (13, .slice (some ad1) sl.length c3), (14, .int .i64 (sl.length : Nat)), (15, .int .i64 (j : Nat)), (16, .bool true)] a' := hf'.sub ⟨rfl, rfl, rfl, rfl, rfl, rfl, rfl, trivial⟩
    clear hf'
    refine wpIn_seq (wpIn_cond_true (HF.tmp rfl) (wpIn_skip ?_))
    refine wpIn_seq (wpIn_block (wpIn_seq ?_))
    refine wpIn_region_k (fun _ => trivial) rfl wideC HF fun K hK => ?_
    iterate 3 (refine OpsK.step rfl rfl rfl ?_; go_simp)
    refine OpsK.nil (hK _ _ fun a' hf' => ?_)
    clear hK K HF
    have HF : Fr 54 [] [(2, .pointer (some ⟨sb, 0, none⟩)), (3, .pointer (some ⟨b, 0, none⟩)), (4, .pointer (some ⟨B, 0, none⟩)), (13, .slice (some ad1) sl.length c3), (14, .int .i64 (sl.length : Nat)), (15, .int .i64 (j : Nat)), (6, .int .i64 (i : Nat))] a' := hf'.sub ⟨rfl, rfl, rfl, rfl, rfl, rfl, rfl, trivial⟩
    clear hf'
    refine wpIn_seq ?_
    refine wpIn_region_k (fun _ => trivial) rfl wideC HF fun K hK => ?_
    iterate 9 (refine OpsK.step rfl rfl rfl ?_; go_simp)
    refine OpsK.nil (hK _ _ fun a' hf' => ?_)
    clear hK K HF
    have HF : Fr 54 [] [(2, .pointer (some ⟨sb, 0, none⟩)), (3, .pointer (some ⟨b, 0, none⟩)), (4, .pointer (some ⟨B, 0, none⟩)), (13, .slice (some ad1) sl.length c3), (14, .int .i64 (sl.length : Nat)), (15, .int .i64 (j : Nat)), (7, .pointer (some ⟨wr.heap.size, 0, none⟩))] a' := hf'.sub ⟨rfl, rfl, rfl, rfl, rfl, rfl, rfl, trivial⟩
    clear hf'
    have hcb : (wr.alloc (.cells #[.string x.f0, .int .i64 x.f1, .int .i64 x.f2, .slice A4 x.f3.length c4, .slice A5 x.f4.length c5, .string x.f5] 25)).heap[wr.heap.size]? = some (.cells #[.string x.f0, .int .i64 x.f1, .int .i64 x.f2, .slice A4 x.f3.length c4, .slice A5 x.f4.length c5, .string x.f5] 25 (0, 0)) := World.alloc_heap_new wr _
    have hal : Below wr.heap.size wr (wr.alloc (.cells #[.string x.f0, .int .i64 x.f1, .int .i64 x.f2, .slice A4 x.f3.length c4, .slice A5 x.f4.length c5, .string x.f5] 25)) := (Below.refl _ wr).alloc (Nat.le_refl _) _
    have hbu := HBU.out.alloc (.cells #[.string x.f0, .int .i64 x.f1, .int .i64 x.f2, .slice A4 x.f3.length c4, .slice A5 x.f4.length c5, .string x.f5] 25)
    have hs4 : (wr.alloc (.cells #[.string x.f0, .int .i64 x.f1, .int .i64 x.f2, .slice A4 x.f3.length c4, .slice A5 x.f4.length c5, .string x.f5] 25)).heap.size = wr.heap.size + 1 := by simp
    obtain ⟨cb, hcbe⟩ : ∃ cb, cb = wr.heap.size := ⟨_, rfl⟩
    rw [← hcbe] at HF hcb
    have hb4 : Below B w2 (wr.alloc (.cells #[.string x.f0, .int .i64 x.f1, .int .i64 x.f2, .slice A4 x.f3.length c4, .slice A5 x.f4.length c5, .string x.f5] 25)) := HBR.out.alloc hsr _
    generalize wr.alloc (.cells #[.string x.f0, .int .i64 x.f1, .int .i64 x.f2, .slice A4 x.f3.length c4, .slice A5 x.f4.length c5, .string x.f5] 25) = w4 at hcb hal hbu hs4 hb4 ⊢
    have cells : ∀ W : World, W.heap[cb]? = some (.cells #[.string x.f0, .int .i64 x.f1, .int .i64 x.f2, .slice A4 x.f3.length c4, .slice A5 x.f4.length c5, .string x.f5] 25 (0, 0)) → W.cell? ⟨cb, 0, none⟩ = some (.string x.f0) ∧ W.cell? ⟨cb, 3, none⟩ = some (.slice A4 x.f3.length c4) ∧ W.cell? ⟨cb, 4, none⟩ = some (.slice A5 x.f4.length c5) ∧ W.cell? ⟨cb, 5, none⟩ = some (.string x.f5) := fun W hW => by
     refine ⟨?_, ?_, ?_, ?_⟩ <;> (unfold World.cell?; rw [hW]; rfl)
    have HCE := Aside0.mk cells
    have HCB := Aside0.mk hcb
    have HBU4 := Aside0.mk hbu
    have HB4 := Aside0.mk hb4
    obtain ⟨k0, k3, k4, k5⟩ := cells w4 hcb
    have HCBE := Aside0.mk hcbe
    clear hcbe cells hcb hbu hb4 hal x0 x1 x2 x3 x4 x5 q0 q1 q2 q3 hc1
    refine wpIn_seq ?_
    obtain ⟨z0, z5, ⟨z3, z3s⟩, z4, z4s⟩ := ok_parts HOK.out
    have hz1 : ¬ 9223372036854775807 < x.f0.size + 2 := by omega
    refine wpIn_region_k (fun _ => trivial) rfl wideC HF fun K hK => ?_
    iterate 3 (refine OpsK.step rfl rfl rfl ?_; go_simp)
    obtain ⟨s1, hs1⟩ : ∃ s1, s1 = x.f0 ++ (⟨#[58, 32]⟩ : ByteArray) := ⟨_, rfl⟩
    rw [← hs1]
    have hs1z : s1.size ≤ 34 := by rw [hs1, ByteArray.size_append]; show _ + 2 ≤ 34; omega
    have hz2 : ¬ 9223372036854775807 < s1.size + x.f5.size := by omega
    have HS1 := Aside0.mk hs1
    clear hs1 hz1
    iterate 3 (refine OpsK.step rfl rfl rfl ?_; go_simp)
    obtain ⟨s2, hs2⟩ : ∃ s2, s2 = s1 ++ x.f5 := ⟨_, rfl⟩
    rw [← hs2]
    have hs2z : s2.size ≤ 66 := by rw [hs2, ByteArray.size_append]; omega
    have HS2 := Aside0.mk hs2
    clear hs2 hz2
    refine OpsK.step rfl rfl rfl ?_
    go_simp
    refine (write65 B B _ s2 w4 HBU4.out (by have := HLL.out; omega) (by omega)).mono ?_
    rintro e w5 ⟨⟨v5, rfl⟩, hbu5, hbl5, hok5⟩
    dsimp only
    refine OpsK.nil (hK _ _ fun a' hf' => ?_)
    clear hK K HF
    have HF : Fr 54 [] [(2, .pointer (some ⟨sb, 0, none⟩)), (3, .pointer (some ⟨b, 0, none⟩)), (4, .pointer (some ⟨B, 0, none⟩)), (13, .slice (some ad1) sl.length c3), (14, .int .i64 (sl.length : Nat)), (15, .int .i64 (j : Nat)), (7, .pointer (some ⟨cb, 0, none⟩))] a' := hf'.sub ⟨rfl, rfl, rfl, rfl, rfl, rfl, rfl, trivial⟩
    clear hf'
    have hcb5 : w5.heap[cb]? = some (.cells #[.string x.f0, .int .i64 x.f1, .int .i64 x.f2, .slice A4 x.f3.length c4, .slice A5 x.f4.length c5, .string x.f5] 25 (0, 0)) := hok5 _ _ HCB.out (fun e => by injection e with e; rw [HCBE.out] at e; omega) (fun _ _ e => by cases e)
    have e2 : s2.data.toList = x.f0.data.toList ++ [58, 32] ++ x.f5.data.toList := by rw [HS2.out, HS1.out]; simp
    have hb5 : Below B w2 w5 := HB4.out.trans hbl5
    have hs5 : wr.heap.size < w5.heap.size := by have := (Array.getElem?_eq_some_iff.1 hcb5).1; rw [← HCBE.out]; exact this
    have HBU5 := Aside0.mk hbu5
    have HB5 := Aside0.mk hb5
    have HE2 := Aside0.mk e2
    have HCB5 := Aside0.mk hcb5
    clear hbu5 hbl5 hok5 hcb5 e2 hb5
    obtain ⟨k0, k3, k4, k5⟩ := HCE.out w5 HCB5.out
    have hp1 : (linesOf l0 (sl.take j) ++ s2.data.toList).length ≤ 500100 := by have e := HLL.out; have e2 : s2.data.toList.length ≤ 66 := (by rw [Array.length_toList]; exact hs2z); rw [List.length_append]; omega
    refine wpIn_seq (wpIn_seq ?_)
    obtain ⟨bpa, hbpa⟩ : ∃ bp, bp = decide (0 < x.f3.length) := ⟨_, rfl⟩
    refine wpIn_region_k (fun _ => trivial) rfl wideC HF fun K hK => ?_
    iterate 4 (refine OpsK.step rfl rfl rfl ?_; go_simp)
    refine OpsK.nil (hK _ _ fun a' hf' => ?_)
    clear hK K HF
    simp only [← hbpa] at hf'
    have HF : Fr 54 [] [(2, .pointer (some ⟨sb, 0, none⟩)), (3, .pointer (some ⟨b, 0, none⟩)), (4, .pointer (some ⟨B, 0, none⟩)), (13, .slice (some ad1) sl.length c3), (14, .int .i64 (sl.length : Nat)), (15, .int .i64 (j : Nat)), (7, .pointer (some ⟨cb, 0, none⟩)), (36, .bool bpa)] a' := hf'.sub ⟨rfl, rfl, rfl, rfl, rfl, rfl, rfl, rfl, trivial⟩
    clear hf'
    have HBPa := Aside0.mk hbpa
    clear hbpa
    refine wpIn_mono (Q := fun e a' w' => e = .normal ∧ Fr 54 [] [(2, .pointer (some ⟨sb, 0, none⟩)), (3, .pointer (some ⟨b, 0, none⟩)), (4, .pointer (some ⟨B, 0, none⟩)), (13, .slice (some ad1) sl.length c3), (14, .int .i64 (sl.length : Nat)), (15, .int .i64 (j : Nat)), (7, .pointer (some ⟨cb, 0, none⟩))] a' ∧ Lib.IsBuilderF 92 5 B B (Lib.byteCells ((linesOf l0 (sl.take j) ++ s2.data.toList) ++ partOf [32, 105, 102, 32] x.f3)) w' ∧ w'.heap[cb]? = some (.cells #[.string x.f0, .int .i64 x.f1, .int .i64 x.f2, .slice A4 x.f3.length c4, .slice A5 x.f4.length c5, .string x.f5] 25 (0, 0)) ∧ Below B w2 w') ?_ ?_
    ·cases bpa with
     | false =>
      refine wpIn_cond_false (HF.tmp rfl) (wpIn_skip ⟨rfl, HF.sub ⟨rfl, rfl, rfl, rfl, rfl, rfl, rfl, trivial⟩, ?_, HCB5.out, HB5.out⟩)
      have e : partOf [32, 105, 102, 32] x.f3 = [] := by unfold partOf; rw [if_neg (by have := HBPa.out; simpa using this.symm)]
      rw [e, List.append_nil]
      exact HBU5.out
     | true =>
      have hpos : 0 < x.f3.length := by have := HBPa.out; simpa using this.symm
      refine wpIn_cond_true (HF.tmp rfl) ?_
      have hjl9 := part_length [32, 105, 102, 32] x.f3 z3 z3s
      have hpe : partOf [32, 105, 102, 32] x.f3 = [32, 105, 102, 32] ++ Lib.join (x.f3.map (·.data.toList)) [44, 32] := by unfold partOf; rw [if_pos hpos]
      obtain ⟨js, hjs⟩ : ∃ js, js = Lib.join (x.f3.map (·.data.toList)) [44, 32] := ⟨_, rfl⟩
      rw [← hjs] at hpe
      have HPE := Aside0.mk hpe
      have HJS := Aside0.mk hjs
      have hjsl : js.length ≤ 1000 := by rw [hpe] at hjl9; simp only [List.length_append, List.length_cons, List.length_nil] at hjl9; omega
      clear hjl9 hpe hjs
      have hz9 : ¬ 9223372036854775807 < 4 + js.length := by omega
      refine wpIn_region_k (fun _ => trivial) rfl wideC HF fun K hK => ?_
      iterate 3 (refine OpsK.step rfl rfl rfl ?_; go_simp)
      refine (join66 A4 c4 x.f3 w5 (Kd.C_below HG3.out (HUP.out _ HB5.out)) HL3.out hpos z3 z3s).mono ?_
      rintro e wj ⟨rfl, hbj⟩
      rw [← HJS.out]
      have hszj := hbj.size
      have HBUJ := Aside0.mk (builder_below HBU5.out hbj)
      have HCBJ := Aside0.mk ((hbj.block cb (Array.getElem?_eq_some_iff.1 HCB5.out).1).trans HCB5.out)
      have HBJ : Aside0 (Below B w2 wj) := ⟨HB5.out.trans (hbj.mono (by omega))⟩
      clear hbj
      dsimp only
      refine OpsK.step rfl rfl rfl ?_
      go_simp
      obtain ⟨s9, hs9⟩ : ∃ s9, s9 = (⟨#[32, 105, 102, 32]⟩ : ByteArray) ++ ⟨js.toArray⟩ := ⟨_, rfl⟩
      first | rw [← hs9] | skip
      have hs9z : s9.size ≤ 1010 := by rw [hs9, ByteArray.size_append]; show 4 + js.toArray.size ≤ _; rw [List.size_toArray]; omega
      have hs9e : s9.data.toList = [32, 105, 102, 32] ++ js := by rw [hs9]; simp
      have HS9 := Aside0.mk hs9e
      clear hs9 hz9 hs9e
      refine OpsK.step rfl rfl rfl ?_
      go_simp
      refine (write65 B B _ s9 wj HBUJ.out (by have := HLL.out; have := hp1; omega) (by omega)).mono ?_
      rintro e w6 ⟨⟨v9, rfl⟩, hbu9, hbl9, hok9⟩
      dsimp only
      refine OpsK.nil (hK _ _ fun a9 hf' => ?_)
      clear hK K HF
      refine ⟨rfl, hf'.sub ⟨rfl, rfl, rfl, rfl, rfl, rfl, rfl, trivial⟩, ?_, hok9 _ _ HCBJ.out (fun e => by injection e with e; rw [HCBE.out] at e; omega) (fun _ _ e => by cases e), HBJ.out.trans hbl9⟩
      rw [HPE.out, ← HS9.out]
      exact hbu9
    ·rintro e a' w6 ⟨rfl, HF, hbu9, hcb9, hbl9⟩
     have HBU6 := Aside0.mk hbu9
     have HCB6 := Aside0.mk hcb9
     have HB6 := Aside0.mk hbl9
     have hsz6 : cb < w6.heap.size := (Array.getElem?_eq_some_iff.1 hcb9).1
     have hszb6 : B ≤ w6.heap.size := by have := HCBE.out; omega
     clear k0 k3 k4 k5
     obtain ⟨k0, k3, k4, k5⟩ := HCE.out w6 hcb9
     clear hbu9 hcb9 hbl9
     have hp2 : (linesOf l0 (sl.take j) ++ s2.data.toList ++ partOf [32, 105, 102, 32] x.f3).length ≤ 500400 := by
      have e := part_length [32, 105, 102, 32] x.f3 z3 z3s
      simp only [List.length_cons, List.length_nil] at e
      rw [List.length_append]
      omega
     refine wpIn_seq (wpIn_seq ?_)
     obtain ⟨bpb, hbpb⟩ : ∃ bp, bp = decide (0 < x.f4.length) := ⟨_, rfl⟩
     refine wpIn_region_k (fun _ => trivial) rfl wideC HF fun K hK => ?_
     iterate 4 (refine OpsK.step rfl rfl rfl ?_; go_simp)
     refine OpsK.nil (hK _ _ fun a' hf' => ?_)
     clear hK K HF
     simp only [← hbpb] at hf'
     have HF : Fr 54 [] [(2, .pointer (some ⟨sb, 0, none⟩)), (3, .pointer (some ⟨b, 0, none⟩)), (4, .pointer (some ⟨B, 0, none⟩)), (13, .slice (some ad1) sl.length c3), (14, .int .i64 (sl.length : Nat)), (15, .int .i64 (j : Nat)), (7, .pointer (some ⟨cb, 0, none⟩)), (45, .bool bpb)] a' := hf'.sub ⟨rfl, rfl, rfl, rfl, rfl, rfl, rfl, rfl, trivial⟩
     clear hf'
     have HBPb := Aside0.mk hbpb
     clear hbpb
     refine wpIn_mono (Q := fun e a' w' => e = .normal ∧ Fr 54 [] [(2, .pointer (some ⟨sb, 0, none⟩)), (3, .pointer (some ⟨b, 0, none⟩)), (4, .pointer (some ⟨B, 0, none⟩)), (13, .slice (some ad1) sl.length c3), (14, .int .i64 (sl.length : Nat)), (15, .int .i64 (j : Nat)), (7, .pointer (some ⟨cb, 0, none⟩))] a' ∧ Lib.IsBuilderF 92 5 B B (Lib.byteCells ((linesOf l0 (sl.take j) ++ s2.data.toList ++ partOf [32, 105, 102, 32] x.f3) ++ partOf [32, 117, 110, 108, 101, 115, 115, 32] x.f4)) w' ∧ w'.heap[cb]? = some (.cells #[.string x.f0, .int .i64 x.f1, .int .i64 x.f2, .slice A4 x.f3.length c4, .slice A5 x.f4.length c5, .string x.f5] 25 (0, 0)) ∧ Below B w2 w') ?_ ?_
     ·cases bpb with
      | false =>
       refine wpIn_cond_false (HF.tmp rfl) (wpIn_skip ⟨rfl, HF.sub ⟨rfl, rfl, rfl, rfl, rfl, rfl, rfl, trivial⟩, ?_, HCB6.out, HB6.out⟩)
       have e : partOf [32, 117, 110, 108, 101, 115, 115, 32] x.f4 = [] := by unfold partOf; rw [if_neg (by have := HBPb.out; simpa using this.symm)]
       rw [e, List.append_nil]
       exact HBU6.out
      | true =>
       have hpos : 0 < x.f4.length := by have := HBPb.out; simpa using this.symm
       refine wpIn_cond_true (HF.tmp rfl) ?_
       have hjl9 := part_length [32, 117, 110, 108, 101, 115, 115, 32] x.f4 z4 z4s
       have hpe : partOf [32, 117, 110, 108, 101, 115, 115, 32] x.f4 = [32, 117, 110, 108, 101, 115, 115, 32] ++ Lib.join (x.f4.map (·.data.toList)) [44, 32] := by unfold partOf; rw [if_pos hpos]
       obtain ⟨js, hjs⟩ : ∃ js, js = Lib.join (x.f4.map (·.data.toList)) [44, 32] := ⟨_, rfl⟩
       rw [← hjs] at hpe
       have HPE := Aside0.mk hpe
       have HJS := Aside0.mk hjs
       have hjsl : js.length ≤ 1000 := by rw [hpe] at hjl9; simp only [List.length_append, List.length_cons, List.length_nil] at hjl9; omega
       clear hjl9 hpe hjs
       have hz9 : ¬ 9223372036854775807 < 8 + js.length := by omega
       refine wpIn_region_k (fun _ => trivial) rfl wideC HF fun K hK => ?_
       iterate 3 (refine OpsK.step rfl rfl rfl ?_; go_simp)
       refine (join66 A5 c5 x.f4 w6 (Kd.C_below HG4.out (HUP.out _ HB6.out)) HL4.out hpos z4 z4s).mono ?_
       rintro e wj ⟨rfl, hbj⟩
       rw [← HJS.out]
       have hszj := hbj.size
       have HBUJ := Aside0.mk (builder_below HBU6.out hbj)
       have HCBJ := Aside0.mk ((hbj.block cb (Array.getElem?_eq_some_iff.1 HCB6.out).1).trans HCB6.out)
       have HBJ : Aside0 (Below B w2 wj) := ⟨HB6.out.trans (hbj.mono (by omega))⟩
       clear hbj
       dsimp only
       refine OpsK.step rfl rfl rfl ?_
       go_simp
       obtain ⟨s9, hs9⟩ : ∃ s9, s9 = (⟨#[32, 117, 110, 108, 101, 115, 115, 32]⟩ : ByteArray) ++ ⟨js.toArray⟩ := ⟨_, rfl⟩
       first | rw [← hs9] | skip
       have hs9z : s9.size ≤ 1010 := by rw [hs9, ByteArray.size_append]; show 8 + js.toArray.size ≤ _; rw [List.size_toArray]; omega
       have hs9e : s9.data.toList = [32, 117, 110, 108, 101, 115, 115, 32] ++ js := by rw [hs9]; simp
       have HS9 := Aside0.mk hs9e
       clear hs9 hz9 hs9e
       refine OpsK.step rfl rfl rfl ?_
       go_simp
       refine (write65 B B _ s9 wj HBUJ.out (by have := HLL.out; have := hp2; omega) (by omega)).mono ?_
       rintro e w7 ⟨⟨v9, rfl⟩, hbu9, hbl9, hok9⟩
       dsimp only
       refine OpsK.nil (hK _ _ fun a9 hf' => ?_)
       clear hK K HF
       refine ⟨rfl, hf'.sub ⟨rfl, rfl, rfl, rfl, rfl, rfl, rfl, trivial⟩, ?_, hok9 _ _ HCBJ.out (fun e => by injection e with e; rw [HCBE.out] at e; omega) (fun _ _ e => by cases e), HBJ.out.trans hbl9⟩
       rw [HPE.out, ← HS9.out]
       exact hbu9
     ·rintro e a' w7 ⟨rfl, HF, hbu9, hcb9, hbl9⟩
      have HBU7 := Aside0.mk hbu9
      have HCB7 := Aside0.mk hcb9
      have HB7 := Aside0.mk hbl9
      have hsz7 : cb < w7.heap.size := (Array.getElem?_eq_some_iff.1 hcb9).1
      have hszb7 : B ≤ w7.heap.size := by have := HCBE.out; omega
      clear k0 k3 k4 k5
      obtain ⟨k0, k3, k4, k5⟩ := HCE.out w7 hcb9
      clear hbu9 hcb9 hbl9
      have hp3 : (linesOf l0 (sl.take j) ++ s2.data.toList ++ partOf [32, 105, 102, 32] x.f3 ++ partOf [32, 117, 110, 108, 101, 115, 115, 32] x.f4).length ≤ 500800 := by
       have e := part_length [32, 117, 110, 108, 101, 115, 115, 32] x.f4 z4 z4s
       simp only [List.length_cons, List.length_nil] at e
       rw [List.length_append]
       omega
      refine wpIn_region_k (fun _ => trivial) rfl wideC HF fun K hK => ?_
      refine OpsK.step rfl rfl rfl ?_
      go_simp
      refine (write65 B B _ ⟨#[10]⟩ w7 HBU7.out (by show _ + 1 ≤ _; omega) (by omega)).mono ?_
      rintro e w8 ⟨⟨v8, rfl⟩, hbu8, hbl8, _⟩
      dsimp only
      refine OpsK.nil (hK _ _ fun a' hf' => ?_)
      clear hK K HF
      have HF : Fr 54 [] [(2, .pointer (some ⟨sb, 0, none⟩)), (3, .pointer (some ⟨b, 0, none⟩)), (4, .pointer (some ⟨B, 0, none⟩)), (13, .slice (some ad1) sl.length c3), (14, .int .i64 (sl.length : Nat)), (15, .int .i64 (j : Nat))] a' := hf'.sub ⟨rfl, rfl, rfl, rfl, rfl, rfl, trivial⟩
      clear hf'
      show Code.wpIn _ _ _ (Code.region 13 _ _) _ _ _
      have HBU8 : Aside0 (Lib.IsBuilderF 92 5 B B (Lib.byteCells (linesOf l0 (sl.take (j + 1)))) w8) := ⟨by
       rw [HLN.out]
       have e : linesOf l0 (sl.take j) ++ lineOf x = linesOf l0 (sl.take j) ++ s2.data.toList ++ partOf [32, 105, 102, 32] x.f3 ++ partOf [32, 117, 110, 108, 101, 115, 115, 32] x.f4 ++ (⟨#[10]⟩ : ByteArray).data.toList := by
        rw [HE2.out]
        unfold lineOf
        simp only [List.append_assoc]
       rw [e]
       exact hbu8⟩
      have HB8 : Aside0 (Below B w2 w8) := ⟨HB7.out.trans hbl8⟩
      clear hbu8 hbl8
      refine wpIn_region_k (fun _ => trivial) rfl wideC HF fun K hK => ?_
      iterate 2 (refine OpsK.step rfl rfl rfl ?_; go_simp)
      refine OpsK.nil (hK _ _ fun a3 hf' => ?_)
      clear hK K HF
      rw [HWJ.out] at hf'
      have HF : Fr 54 [] [(2, .pointer (some ⟨sb, 0, none⟩)), (3, .pointer (some ⟨b, 0, none⟩)), (4, .pointer (some ⟨B, 0, none⟩)), (13, .slice (some ad1) sl.length c3), (14, .int .i64 (sl.length : Nat)), (15, .int .i64 ((j + 1 : Nat) : Int))] a3 := hf'.sub ⟨rfl, rfl, rfl, rfl, rfl, rfl, trivial⟩
      clear hf'
      refine ⟨⟨j + 1, by omega, HF, HBU8.out, HB8.out⟩, ?_⟩
      rw [HF.tmp (k := 15) rfl]
      simp only [intOf]
      omega
   ·obtain rfl : j = sl.length := by omega
    have hnlt : ¬ ((sl.length : Nat) : Int) < ((sl.length : Nat) : Int) := by omega
    refine wpIn_region_k (fun _ => trivial) rfl wideC HF fun K hK => ?_
    refine OpsK.step rfl rfl rfl ?_
    go_simp
    refine OpsK.nil (hK _ _ fun a' hf' => ?_)
    clear hK K HF
    have HF : Fr 54 [] [(2, .pointer (some ⟨sb, 0, none⟩)), (3, .pointer (some ⟨b, 0, none⟩)), (4, .pointer (some ⟨B, 0, none⟩)), (16, .bool false)] a' := hf'.sub ⟨rfl, rfl, rfl, rfl, trivial⟩
    clear hf'
    refine wpIn_seq (wpIn_cond_false (HF.tmp rfl) (wpIn_exit ?_))
    simp only [Exit.then, Exit.inBlock, ↓reduceIte]
    have hbu := HBU.out
    rw [List.take_length] at hbu
    have HC := Aside0.mk (string67 B B _ wr hbu hsr)
    have hsbw : ∀ W, Below B wr W → W.heap[sb]? = some (.cells #[.string n0] 9 (0, 0)) ∧ Below w.heap.size w W := fun W hW => by
     have h1 : Below w2.heap.size w2 W := by rw [← HB.out]; exact HBR.out.trans hW
     have h2 := below_then HW2.out HW2.out.size h1
     exact ⟨(h2.block sb hsl).trans HSB.out, h2⟩
    have HSW := Aside0.mk hsbw
    clear hbu hsbw hnlt
    refine wpIn_region_k (fun _ => trivial) rfl wideC HF fun K hK => ?_
    refine OpsK.step rfl rfl rfl ?_
    go_simp
    refine HC.out.mono ?_
    rintro e w9 ⟨rfl, hb9⟩
    obtain ⟨g1, g2⟩ := HSW.out w9 hb9
    have u1 := cell_of g1
    have u2 := frozen_of g1
    have HB9 := Aside0.mk g2
    clear g1 g2 hb9
    obtain ⟨out, hout⟩ : ∃ out : ByteArray, out = ⟨(linesOf l0 sl).toArray⟩ := ⟨_, rfl⟩
    rw [← hout]
    have HOUT := Aside0.mk hout
    clear hout
    dsimp only
    refine OpsK.step rfl rfl rfl ?_
    go_simp
    refine OpsK.nil (hK _ _ fun a' hf' => ?_)
    clear hK K HF
    refine hf'.end0 rfl ⟨w9, HB9.out, ?_⟩
    rw [HANS.out, ← HOUT.out]
    exact ⟨_, rfl, rfl, rfl⟩
end
section
open Prot (heldOf roundL roundP addL addOne mkLevel mkLevels at_ firesB Good Fits)
attribute [local go_sem] slk sget sput uponK_value uponK_skip uponK_enter
open Prot (derive proveL)
structure Keeps (sb : Nat) (W w' : World) : Prop where
 os : w'.os = W.os
 tape : w'.tape = W.tape
 output : w'.output = W.output
 size : W.heap.size ≤ w'.heap.size
 block : ∀ k, k < W.heap.size → k ≠ sb → w'.heap[k]? = W.heap[k]?
theorem size_setCell (w : World) (p : Addr) (v : Value) : (w.setCell p v).heap.size = w.heap.size := by simp [World.setCell]
def Answered {α : Type} (sb : Nat) (T : TypeId) (n0 : Value) (ans : Except (Int × Int) α) (R : World → World → Value → α → Prop) (W : World) (e : Ending) (w' : World) : Prop :=
 Keeps sb W w' ∧ match ans with
  | .error (x, y) => e = .returned (.tuple #[.int .i64 x, .int .i64 y]) ∧ w'.heap[sb]? = some (.cells #[n0] T (0, 0))
  | .ok a => e = .returned (.tuple #[.int .i64 (-1), .int .i64 0]) ∧ ∃ w1 v, W.heap.size ≤ w1.heap.size ∧ w'.heap[sb]? = some (.cells #[v] T (0, 0)) ∧ R w1 w' v a
theorem answered_q {α : Type} (g : Nat) (cap : Array Value) (sb : Nat) (T : TypeId) (n0 : Value) (ans : Except (Int × Int) α) (R : World → World → Value → α → Prop) (W : World)
  (eg : ∀ args w, (callFunc g args).run Tryz.prog w = .ok (.enter g args) w) (hs : W.heap[sb]? = some (.cells #[n0] T (0, 0)))
  (hR : ∀ w1 w2 w' v a, R w1 w2 v a → (∀ k, w1.heap.size ≤ k → k < w2.heap.size → w'.heap[k]? = w2.heap[k]?) → R w1 w' v a)
  (hq : ∀ w1, Below W.heap.size W w1 → Calls Tryz.prog g cap w1 (QPost w1 sb ans (R w1))) :
  Calls Tryz.prog 37 #[.func (.func g) #[] cap] W (Answered sb T n0 ans R W) := by
 have hsl := (Array.getElem?_eq_some_iff.1 hs).1
 refine (answered_calls g cap W (fun o w2 => ∃ w1 u2, Below W.heap.size W w1 ∧ W.heap.size + 2 ≤ w1.heap.size ∧ Below w1.heap.size w1 u2 ∧ match ans with
   | .error p => o = some p ∧ w2 = u2
   | .ok a => o = none ∧ ∃ v, R w1 u2 v a ∧ w2 = u2.setCell ⟨sb, 0, none⟩ v) eg fun w1 h1 hsz => ?_).mono ?_
 ·refine (hq w1 h1).mono ?_
  rintro e w2 ⟨u2, hb, he⟩
  cases ans with
  | error p =>
   obtain ⟨rfl, rfl⟩ := he
   exact ⟨some p, rfl, hb.block _ (by omega), hb.block _ (by omega), w1, w2, h1, hsz, hb, rfl, rfl⟩
  | ok a =>
   obtain ⟨v, hr, rfl, rfl⟩ := he
   refine ⟨none, rfl, ?_, ?_, w1, u2, h1, hsz, hb, rfl, v, hr, rfl⟩
   ·rw [Below.heap_setCell _ _ _ _ (by show W.heap.size ≠ sb; omega)]; exact hb.block _ (by omega)
   ·rw [Below.heap_setCell _ _ _ _ (by show W.heap.size + 1 ≠ sb; omega)]; exact hb.block _ (by omega)
 ·rintro e w' ⟨o, w2, ⟨w1, u2, h1, hsz, hb, he⟩, hS, rfl⟩
  have hbs := hb.size
  have hbl : ∀ k, k < W.heap.size → u2.heap[k]? = W.heap[k]? := fun k hk => (hb.block k (by omega)).trans (h1.block k hk)
  cases ans with
  | error p =>
   obtain ⟨rfl, rfl⟩ := he
   refine ⟨⟨hS.os.trans (hb.os.trans h1.os), hS.tape.trans (hb.tape.trans h1.tape), hS.output.trans (hb.output.trans h1.output), by have := hS.size; omega, fun k hk _ => (hS.block k (by omega) (by omega) (by omega)).trans (hbl k hk)⟩, rfl, ?_⟩
   exact ((hS.block sb (by omega) (by omega) (by omega)).trans (hbl sb hsl)).trans hs
  | ok a =>
   obtain ⟨rfl, v, hr, rfl⟩ := he
   have hss := size_setCell u2 ⟨sb, 0, none⟩ v
   refine ⟨⟨hS.os.trans (hb.os.trans h1.os), hS.tape.trans (hb.tape.trans h1.tape), hS.output.trans (hb.output.trans h1.output), by have := hS.size; omega, fun k hk hne => ?_⟩, rfl, w1, v, by omega, ?_, ?_⟩
   ·rw [hS.block k (by omega) (by omega) (by omega), Below.heap_setCell _ _ _ _ hne]; exact hbl k hk
   ·rw [hS.block sb (by omega) (by omega) (by omega)]
    exact one_setCell ((hbl sb hsl).trans hs)
   ·refine hR w1 u2 w' v a hr fun k hk hk2 => ?_
    rw [hS.block k (by omega) (by omega) (by omega), Below.heap_setCell _ _ _ _ (by show k ≠ sb; omega)]
theorem move_row {β : Type} (d : Kd β) (e : Nat) : ∀ (w1 w2 w' : World) (v : Value) (a : List β), Kd.R d e w2 w1.heap.size (fun _ => True) v a → (∀ k, w1.heap.size ≤ k → k < w2.heap.size → w'.heap[k]? = w2.heap[k]?) → Kd.R d e w' w1.heap.size (fun _ => True) v a :=
 fun w1 w2 w' v a h hm => Kd.R_mono (Kd.R_move (Kd.R_bound h) fun k hk => hm k hk.2.1 hk.2.2.1) fun _ _ => trivial
theorem results_ct {P : Program} {fn : Func} {c t : Nat} {ty : TypeId} {l : Slots} {a : Act} {N : Nat} {ds : List Deferred} {w : World} {p : Addr} {v x : Value} (hf : Fr N ds l a) (h : fn.results = #[.cell c ty, .tmp t]) (hc : sget l c = some (.pointer (some p))) (ht : sget l t = some x)
  (ha : ∀ w, (isAgg ty).run P w = .ok false w) (hl : w.cell? p = some v) : (results fn a.tmps).run P w = .ok (.tuple #[v, x]) w := by
 have h1 := hf.know c _ hc
 have h2 := hf.know t _ ht
 simp [results, h, h1, h2, ha, hl, go_sem]
theorem Keeps.below {sb : Nat} {w W w' : World} (k : Keeps sb W w') (hb : Below w.heap.size w W) (h : w.heap.size ≤ sb) : Below w.heap.size w w' :=
 ⟨k.os.trans hb.os, k.tape.trans hb.tape, k.output.trans hb.output, Nat.le_trans hb.size k.size, fun j hj => (k.block j (Nat.lt_of_lt_of_le hj hb.size) (by omega)).trans (hb.block j hj)⟩
theorem enters51 (args : Array Value) (w : World) : (callFunc 51 args).run Tryz.prog w = .ok (.enter 51 args) w := enters_of Tryz.func51 (by kernel_rfl) rfl args w
theorem enters56 (args : Array Value) (w : World) : (callFunc 56 args).run Tryz.prog w = .ok (.enter 56 args) w := enters_of Tryz.func56 (by kernel_rfl) rfl args w
theorem enters64 (args : Array Value) (w : World) : (callFunc 64 args).run Tryz.prog w = .ok (.enter 64 args) w := enters_of Tryz.func64 (by kernel_rfl) rfl args w
theorem enters60 (args : Array Value) (w : World) : (callFunc 60 args).run Tryz.prog w = .ok (.enter 60 args) w := enters_of Tryz.func60 (by kernel_rfl) rfl args w
def protest_Holds.f (l0 : List S25) (a1 : Int) (l2 : List ByteArray) : Option (List ByteArray × Int) := some (match holdsOf l0 a1 l2 with | .error p => ([], p.2) | .ok r => (r, 0))
set_option maxRecDepth 100000 in
set_option maxHeartbeats 2000000 in
theorem protest_Holds.calls (A0 : Option Addr) (c0 : Nat) (l0 : List S25) (a1 : Int) (A2 : Option Addr) (c2 : Nat) (l2 : List ByteArray) (r1 : List ByteArray) (r2 : Int) (w : World) (hr0 : Kd.C k25 w A0 l0.length l0) (hc0 : l0.length ≤ c0) (hr2 : Kd.C Kd.string w A2 l2.length l2) (hc2 : l2.length ≤ c2) (h : protest_Holds.f l0 a1 l2 = some (r1, r2)) :
  Calls Tryz.prog 18 #[.slice A0 l0.length c0, .int .i64 a1, .slice A2 l2.length c2] w fun e w' => ∃ v0_ : Value, e = .returned (.tuple #[v0_, .int .i64 r2]) ∧ Kd.R Kd.string 9 w' w.heap.size (fun _ => True) v0_ r1 ∧ Below w.heap.size w w' := by
 have hmf : ∀ (fn : Fn) (first cap : Array Value) (w : World), (Instr.makeFunc fn first cap).run Tryz.prog w = .ok (.func fn first cap) w := fun _ _ _ _ => rfl
 have HHhr0 := Aside0.mk hr0
 have HHhr2 := Aside0.mk hr2
 have HDEF := Aside0.mk h
 clear h hr0 hr2
 refine callsK (args := [.slice A0 l0.length c0, .int .i64 a1, .slice A2 l2.length c2]) Tryz.func18 rfl Tryz.ntmps18 (by simp) fun a HF0 => ?_
 have HF : Fr 15 [] [(0, .slice A0 l0.length c0), (1, .int .i64 a1), (2, .slice A2 l2.length c2)] a := HF0
 clear HF0
 refine wpIn_seq ?_
 refine wpIn_region_k (fun _ => trivial) rfl wideC HF fun K hK => ?_
 iterate 5 (refine OpsK.step rfl rfl rfl ?_; go_simp)
 refine OpsK.nil (hK _ _ fun a' hf' => ?_)
 clear hK K HF
 have HF : Fr 15 [] [(3, .pointer (some ⟨w.heap.size, 0, none⟩)), (4, .pointer (some ⟨w.heap.size + 1, 0, none⟩)), (5, .pointer (some ⟨w.heap.size + 1 + 1, 0, none⟩)), (6, .pointer (some ⟨w.heap.size + 1 + 1 + 1, 0, none⟩))] a' := hf'.sub ⟨rfl, rfl, rfl, rfl, trivial⟩
 clear hf'
 have hL := ((((Laid.nil w).snoc (.cells #[.slice A0 l0.length c0] 22)).snoc (.cells #[.int .i64 a1] 3)).snoc (.cells #[.slice A2 l2.length c2] 23)).snoc (.cells #[.slice none 0 0] 23)
 generalize ((((w.alloc (.cells #[.slice A0 l0.length c0] 22)).alloc (.cells #[.int .i64 a1] 3)).alloc (.cells #[.slice A2 l2.length c2] 23)).alloc (.cells #[.slice none 0 0] 23)) = W at hL ⊢
 have hsz : W.heap.size = w.heap.size + 4 := hL.size
 have hb0 := hL.below
 have g0 : W.heap[w.heap.size]? = _ := hL.heap (i := 0) rfl
 have g1 : W.heap[w.heap.size + 1]? = _ := hL.heap (i := 1) rfl
 have g2 : W.heap[w.heap.size + 1 + 1]? = _ := hL.heap (i := 2) rfl
 have g3 : W.heap[w.heap.size + 1 + 1 + 1]? = _ := hL.heap (i := 3) rfl
 have HC : Aside0 (Calls Tryz.prog 37 #[.func (.func 51) #[] #[.pointer (some ⟨w.heap.size, 0, none⟩), .pointer (some ⟨w.heap.size + 1, 0, none⟩), .pointer (some ⟨w.heap.size + 1 + 1, 0, none⟩), .pointer (some ⟨w.heap.size + 1 + 1 + 1, 0, none⟩)]] W (Answered (w.heap.size + 1 + 1 + 1) 23 (.slice none 0 0) (holdsOf l0 a1 l2) (fun w1 w2 v hs => Kd.R Kd.string 9 w2 w1.heap.size (fun _ => True) v hs) W)) := ⟨answered_q 51 _ _ _ _ _ _ W enters51 g3 (move_row Kd.string 9) fun w1 h1 => by
  have k0 := (h1.block (w.heap.size) (by omega)).trans g0
  have k1 := (h1.block (w.heap.size + 1) (by omega)).trans g1
  have k2 := (h1.block (w.heap.size + 1 + 1) (by omega)).trans g2
  have k3 := (h1.block (w.heap.size + 1 + 1 + 1) (by omega)).trans g3
  have hbw : Below w.heap.size w w1 := below_then hb0 hb0.size h1
  exact holds_question _ _ _ _ A0 c0 l0 a1 A2 c2 l2 _ w1 k0 k1 k2 k3 (by omega) (Kd.C_below HHhr0.out hbw) hc0 (Kd.C_below HHhr2.out hbw) hc2⟩
 have HB0 := Aside0.mk hb0
 clear hL hb0 g0 g1 g2 g3
 refine wpIn_seq ?_
 refine wpIn_region_k (fun _ => trivial) rfl wideC HF fun K hK => ?_
 iterate 2 (refine OpsK.step rfl rfl rfl ?_; go_simp)
 refine HC.out.mono ?_
 rintro e w2 ⟨hkp, hp⟩
 have hb2 : Below w.heap.size w w2 := hkp.below HB0.out (by omega)
 cases ha : holdsOf l0 a1 l2 with
 | error p =>
  obtain ⟨x, y⟩ := p
  rw [ha] at hp
  obtain ⟨rfl, g⟩ := hp
  have u1 := cell_of g
  have u2 := frozen_of g
  have hb3 : Below w.heap.size w (w2.setCell ⟨w.heap.size + 1 + 1 + 1, 0, none⟩ (.slice none 0 0)) := hb2.setCell (by show w.heap.size ≤ w.heap.size + 1 + 1 + 1; omega) _
  have u3 := cell_of (one_setCell (u := .slice none 0 0) g)
  have HG := Aside0.mk g
  have HB3 := Aside0.mk hb3
  have HA := Aside0.mk ha
  have HU3 := Aside0.mk u3
  have HKP := Aside0.mk hkp
  clear g hb3 ha u3 hb2 hkp
  dsimp only
  iterate 4 (refine OpsK.step rfl rfl rfl ?_; go_simp)
  refine OpsK.nil (hK _ _ fun a' hf' => ?_)
  clear hK K HF
  have HF : Fr 15 [] [(6, .pointer (some ⟨w.heap.size + 1 + 1 + 1, 0, none⟩)), (7, .int .i64 y)] a' := hf'.sub ⟨rfl, rfl, trivial⟩
  clear hf'
  refine wpIn_seq ?_
  refine wpIn_region_k (fun _ => trivial) rfl wideC HF fun K hK => ?_
  iterate 4 (refine OpsK.step rfl rfl rfl ?_; go_simp)
  refine OpsK.nil (hK _ _ fun a9 hf' => ?_)
  clear hK K HF
  have HF : Fr 15 [] [(6, .pointer (some ⟨w.heap.size + 1 + 1 + 1, 0, none⟩)), (7, .int .i64 y)] a9 := hf'.sub ⟨rfl, rfl, trivial⟩
  clear hf'
  refine wpIn_ret (bodyPost_ret (results_ct HF rfl rfl rfl Tryz.isAgg23 HU3.out) HF.defs ?_)
  have hd := HDEF.out
  unfold protest_Holds.f at hd
  rw [HA.out] at hd
  cases hd
  exact ⟨_, rfl, Kd.R_nil _ _ _ _ _, HB3.out⟩
 | ok r =>
  rw [ha] at hp
  obtain ⟨rfl, w1, v, hw1, g, hr⟩ := hp
  obtain ⟨Av, cv, hv⟩ := Kd.R_slice hr
  have HR := Aside0.mk hr
  clear hr
  subst hv
  have u1 := cell_of g
  have u2 := frozen_of g
  have hb3 : Below w.heap.size w (w2.setCell ⟨w.heap.size + 1 + 1 + 1, 0, none⟩ (.slice Av r.length cv)) := hb2.setCell (by show w.heap.size ≤ w.heap.size + 1 + 1 + 1; omega) _
  have u3 := cell_of (one_setCell (u := .slice Av r.length cv) g)
  have HG := Aside0.mk g
  have HB3 := Aside0.mk hb3
  have HA := Aside0.mk ha
  have HU3 := Aside0.mk u3
  have HKP := Aside0.mk hkp
  clear g hb3 ha u3 hb2 hkp
  dsimp only
  iterate 4 (refine OpsK.step rfl rfl rfl ?_; go_simp)
  refine OpsK.nil (hK _ _ fun a' hf' => ?_)
  clear hK K HF
  have HF : Fr 15 [] [(6, .pointer (some ⟨w.heap.size + 1 + 1 + 1, 0, none⟩)), (7, .int .i64 0)] a' := hf'.sub ⟨rfl, rfl, trivial⟩
  clear hf'
  refine wpIn_seq ?_
  refine wpIn_region_k (fun _ => trivial) rfl wideC HF fun K hK => ?_
  iterate 4 (refine OpsK.step rfl rfl rfl ?_; go_simp)
  refine OpsK.nil (hK _ _ fun a9 hf' => ?_)
  clear hK K HF
  have HF : Fr 15 [] [(6, .pointer (some ⟨w.heap.size + 1 + 1 + 1, 0, none⟩)), (7, .int .i64 0)] a9 := hf'.sub ⟨rfl, rfl, trivial⟩
  clear hf'
  refine wpIn_ret (bodyPost_ret (results_ct HF rfl rfl rfl Tryz.isAgg23 HU3.out) HF.defs ?_)
  have hd := HDEF.out
  unfold protest_Holds.f at hd
  rw [HA.out] at hd
  cases hd
  exact ⟨_, rfl, Kd.R_lower (Kd.R_mono (Kd.R_move (Kd.R_bound HR.out) fun k hk => Below.heap_setCell _ _ _ _ (by have := hk.2.1; show k ≠ w.heap.size + 1 + 1 + 1; omega)) fun _ _ => trivial) (by omega), HB3.out⟩
noncomputable def protest_Why.f (l0 : List S25) (a1 : Int) (l2 : List ByteArray) (a3 : ByteArray) : Option (List Int × Int) := some (match whyOf l0 a1 l2 a3 with | .error p => ([], p.2) | .ok r => (r, 0))
set_option maxRecDepth 100000 in
set_option maxHeartbeats 2000000 in
theorem protest_Why.calls (A0 : Option Addr) (c0 : Nat) (l0 : List S25) (a1 : Int) (A2 : Option Addr) (c2 : Nat) (l2 : List ByteArray) (a3 : ByteArray) (r1 : List Int) (r2 : Int) (w : World) (hr0 : Kd.C k25 w A0 l0.length l0) (hc0 : l0.length ≤ c0) (hr2 : Kd.C Kd.string w A2 l2.length l2) (hc2 : l2.length ≤ c2) (h : protest_Why.f l0 a1 l2 a3 = some (r1, r2)) :
  Calls Tryz.prog 20 #[.slice A0 l0.length c0, .int .i64 a1, .slice A2 l2.length c2, .string a3] w fun e w' => ∃ v0_ : Value, e = .returned (.tuple #[v0_, .int .i64 r2]) ∧ Kd.R (Kd.int .i64) 3 w' w.heap.size (fun _ => True) v0_ r1 ∧ Below w.heap.size w w' := by
 have hmf : ∀ (fn : Fn) (first cap : Array Value) (w : World), (Instr.makeFunc fn first cap).run Tryz.prog w = .ok (.func fn first cap) w := fun _ _ _ _ => rfl
 have HHhr0 := Aside0.mk hr0
 have HHhr2 := Aside0.mk hr2
 have HDEF := Aside0.mk h
 clear h hr0 hr2
 refine callsK (args := [.slice A0 l0.length c0, .int .i64 a1, .slice A2 l2.length c2, .string a3]) Tryz.func20 rfl Tryz.ntmps20 (by simp) fun a HF0 => ?_
 have HF : Fr 17 [] [(0, .slice A0 l0.length c0), (1, .int .i64 a1), (2, .slice A2 l2.length c2), (3, .string a3)] a := HF0
 clear HF0
 refine wpIn_seq ?_
 refine wpIn_region_k (fun _ => trivial) rfl wideC HF fun K hK => ?_
 iterate 6 (refine OpsK.step rfl rfl rfl ?_; go_simp)
 refine OpsK.nil (hK _ _ fun a' hf' => ?_)
 clear hK K HF
 have HF : Fr 17 [] [(4, .pointer (some ⟨w.heap.size, 0, none⟩)), (5, .pointer (some ⟨w.heap.size + 1, 0, none⟩)), (6, .pointer (some ⟨w.heap.size + 1 + 1, 0, none⟩)), (7, .pointer (some ⟨w.heap.size + 1 + 1 + 1, 0, none⟩)), (8, .pointer (some ⟨w.heap.size + 1 + 1 + 1 + 1, 0, none⟩))] a' := hf'.sub ⟨rfl, rfl, rfl, rfl, rfl, trivial⟩
 clear hf'
 have hL := (((((Laid.nil w).snoc (.cells #[.slice A0 l0.length c0] 22)).snoc (.cells #[.int .i64 a1] 3)).snoc (.cells #[.slice A2 l2.length c2] 23)).snoc (.cells #[.string a3] 9)).snoc (.cells #[.slice none 0 0] 37)
 generalize (((((w.alloc (.cells #[.slice A0 l0.length c0] 22)).alloc (.cells #[.int .i64 a1] 3)).alloc (.cells #[.slice A2 l2.length c2] 23)).alloc (.cells #[.string a3] 9)).alloc (.cells #[.slice none 0 0] 37)) = W at hL ⊢
 have hsz : W.heap.size = w.heap.size + 5 := hL.size
 have hb0 := hL.below
 have g0 : W.heap[w.heap.size]? = _ := hL.heap (i := 0) rfl
 have g1 : W.heap[w.heap.size + 1]? = _ := hL.heap (i := 1) rfl
 have g2 : W.heap[w.heap.size + 1 + 1]? = _ := hL.heap (i := 2) rfl
 have g3 : W.heap[w.heap.size + 1 + 1 + 1]? = _ := hL.heap (i := 3) rfl
 have g4 : W.heap[w.heap.size + 1 + 1 + 1 + 1]? = _ := hL.heap (i := 4) rfl
 have HC : Aside0 (Calls Tryz.prog 37 #[.func (.func 56) #[] #[.pointer (some ⟨w.heap.size, 0, none⟩), .pointer (some ⟨w.heap.size + 1, 0, none⟩), .pointer (some ⟨w.heap.size + 1 + 1, 0, none⟩), .pointer (some ⟨w.heap.size + 1 + 1 + 1, 0, none⟩), .pointer (some ⟨w.heap.size + 1 + 1 + 1 + 1, 0, none⟩)]] W (Answered (w.heap.size + 1 + 1 + 1 + 1) 37 (.slice none 0 0) (whyOf l0 a1 l2 a3) (fun w1 w2 v hs => Kd.R (Kd.int .i64) 3 w2 w1.heap.size (fun _ => True) v hs) W)) := ⟨answered_q 56 _ _ _ _ _ _ W enters56 g4 (move_row (Kd.int .i64) 3) fun w1 h1 => by
  have k0 := (h1.block (w.heap.size) (by omega)).trans g0
  have k1 := (h1.block (w.heap.size + 1) (by omega)).trans g1
  have k2 := (h1.block (w.heap.size + 1 + 1) (by omega)).trans g2
  have k3 := (h1.block (w.heap.size + 1 + 1 + 1) (by omega)).trans g3
  have k4 := (h1.block (w.heap.size + 1 + 1 + 1 + 1) (by omega)).trans g4
  have hbw : Below w.heap.size w w1 := below_then hb0 hb0.size h1
  exact why_question _ _ _ _ _ A0 c0 l0 a1 A2 c2 l2 a3 _ w1 k0 k1 k2 k3 k4 (Kd.C_below HHhr0.out hbw) hc0 (Kd.C_below HHhr2.out hbw) hc2⟩
 have HB0 := Aside0.mk hb0
 clear hL hb0 g0 g1 g2 g3 g4
 refine wpIn_seq ?_
 refine wpIn_region_k (fun _ => trivial) rfl wideC HF fun K hK => ?_
 iterate 2 (refine OpsK.step rfl rfl rfl ?_; go_simp)
 refine HC.out.mono ?_
 rintro e w2 ⟨hkp, hp⟩
 have hb2 : Below w.heap.size w w2 := hkp.below HB0.out (by omega)
 cases ha : whyOf l0 a1 l2 a3 with
 | error p =>
  obtain ⟨x, y⟩ := p
  rw [ha] at hp
  obtain ⟨rfl, g⟩ := hp
  have u1 := cell_of g
  have u2 := frozen_of g
  have hb3 : Below w.heap.size w (w2.setCell ⟨w.heap.size + 1 + 1 + 1 + 1, 0, none⟩ (.slice none 0 0)) := hb2.setCell (by show w.heap.size ≤ w.heap.size + 1 + 1 + 1 + 1; omega) _
  have u3 := cell_of (one_setCell (u := .slice none 0 0) g)
  have HG := Aside0.mk g
  have HB3 := Aside0.mk hb3
  have HA := Aside0.mk ha
  have HU3 := Aside0.mk u3
  have HKP := Aside0.mk hkp
  clear g hb3 ha u3 hb2 hkp
  dsimp only
  iterate 4 (refine OpsK.step rfl rfl rfl ?_; go_simp)
  refine OpsK.nil (hK _ _ fun a' hf' => ?_)
  clear hK K HF
  have HF : Fr 17 [] [(8, .pointer (some ⟨w.heap.size + 1 + 1 + 1 + 1, 0, none⟩)), (9, .int .i64 y)] a' := hf'.sub ⟨rfl, rfl, trivial⟩
  clear hf'
  refine wpIn_seq ?_
  refine wpIn_region_k (fun _ => trivial) rfl wideC HF fun K hK => ?_
  iterate 4 (refine OpsK.step rfl rfl rfl ?_; go_simp)
  refine OpsK.nil (hK _ _ fun a9 hf' => ?_)
  clear hK K HF
  have HF : Fr 17 [] [(8, .pointer (some ⟨w.heap.size + 1 + 1 + 1 + 1, 0, none⟩)), (9, .int .i64 y)] a9 := hf'.sub ⟨rfl, rfl, trivial⟩
  clear hf'
  refine wpIn_ret (bodyPost_ret (results_ct HF rfl rfl rfl Tryz.isAgg37 HU3.out) HF.defs ?_)
  have hd := HDEF.out
  unfold protest_Why.f at hd
  rw [HA.out] at hd
  cases hd
  exact ⟨_, rfl, Kd.R_nil _ _ _ _ _, HB3.out⟩
 | ok r =>
  rw [ha] at hp
  obtain ⟨rfl, w1, v, hw1, g, hr⟩ := hp
  obtain ⟨Av, cv, hv⟩ := Kd.R_slice hr
  have HR := Aside0.mk hr
  clear hr
  subst hv
  have u1 := cell_of g
  have u2 := frozen_of g
  have hb3 : Below w.heap.size w (w2.setCell ⟨w.heap.size + 1 + 1 + 1 + 1, 0, none⟩ (.slice Av r.length cv)) := hb2.setCell (by show w.heap.size ≤ w.heap.size + 1 + 1 + 1 + 1; omega) _
  have u3 := cell_of (one_setCell (u := .slice Av r.length cv) g)
  have HG := Aside0.mk g
  have HB3 := Aside0.mk hb3
  have HA := Aside0.mk ha
  have HU3 := Aside0.mk u3
  have HKP := Aside0.mk hkp
  clear g hb3 ha u3 hb2 hkp
  dsimp only
  iterate 4 (refine OpsK.step rfl rfl rfl ?_; go_simp)
  refine OpsK.nil (hK _ _ fun a' hf' => ?_)
  clear hK K HF
  have HF : Fr 17 [] [(8, .pointer (some ⟨w.heap.size + 1 + 1 + 1 + 1, 0, none⟩)), (9, .int .i64 0)] a' := hf'.sub ⟨rfl, rfl, trivial⟩
  clear hf'
  refine wpIn_seq ?_
  refine wpIn_region_k (fun _ => trivial) rfl wideC HF fun K hK => ?_
  iterate 4 (refine OpsK.step rfl rfl rfl ?_; go_simp)
  refine OpsK.nil (hK _ _ fun a9 hf' => ?_)
  clear hK K HF
  have HF : Fr 17 [] [(8, .pointer (some ⟨w.heap.size + 1 + 1 + 1 + 1, 0, none⟩)), (9, .int .i64 0)] a9 := hf'.sub ⟨rfl, rfl, trivial⟩
  clear hf'
  refine wpIn_ret (bodyPost_ret (results_ct HF rfl rfl rfl Tryz.isAgg37 HU3.out) HF.defs ?_)
  have hd := HDEF.out
  unfold protest_Why.f at hd
  rw [HA.out] at hd
  cases hd
  exact ⟨_, rfl, Kd.R_lower (Kd.R_mono (Kd.R_move (Kd.R_bound HR.out) fun k hk => Below.heap_setCell _ _ _ _ (by have := hk.2.1; show k ≠ w.heap.size + 1 + 1 + 1 + 1; omega)) fun _ _ => trivial) (by omega), HB3.out⟩
def protest_Text.f (l0 : List S25) (l1 : List Int) : Option (ByteArray × Int) := if l1.length ≤ 500 then some (match textOf l0 l1 with | .error p => (⟨#[]⟩, p.2) | .ok r => (r, 0)) else none
set_option maxRecDepth 100000 in
set_option maxHeartbeats 2000000 in
theorem protest_Text.calls (A0 : Option Addr) (c0 : Nat) (l0 : List S25) (A1 : Option Addr) (c1 : Nat) (l1 : List Int) (r1 : ByteArray) (r2 : Int) (w : World) (hr0 : Kd.C k25 w A0 l0.length l0) (hc0 : l0.length ≤ c0) (hr1 : (Kd.int .i64).C w A1 l1.length l1) (hc1 : l1.length ≤ c1) (h : protest_Text.f l0 l1 = some (r1, r2)) :
  Calls Tryz.prog 34 #[.slice A0 l0.length c0, .slice A1 l1.length c1] w fun e w' => e = .returned (.tuple #[.string r1, .int .i64 r2]) ∧ Below w.heap.size w w' := by
 have hmf : ∀ (fn : Fn) (first cap : Array Value) (w : World), (Instr.makeFunc fn first cap).run Tryz.prog w = .ok (.func fn first cap) w := fun _ _ _ _ => rfl
 have HHhr0 := Aside0.mk hr0
 have HHhr1 := Aside0.mk hr1
 have hl5 : l1.length ≤ 500 := by unfold protest_Text.f at h; split at h; assumption; cases h
 have HDEF : Aside0 (some (match textOf l0 l1 with | .error p => ((⟨#[]⟩ : ByteArray), p.2) | .ok r => (r, 0)) = some (r1, r2)) := ⟨by unfold protest_Text.f at h; rw [if_pos hl5] at h; exact h⟩
 clear h hr0 hr1
 refine callsK (args := [.slice A0 l0.length c0, .slice A1 l1.length c1]) Tryz.func34 rfl Tryz.ntmps34 (by simp) fun a HF0 => ?_
 have HF : Fr 13 [] [(0, .slice A0 l0.length c0), (1, .slice A1 l1.length c1)] a := HF0
 clear HF0
 refine wpIn_seq ?_
 refine wpIn_region_k (fun _ => trivial) rfl wideC HF fun K hK => ?_
 iterate 4 (refine OpsK.step rfl rfl rfl ?_; go_simp)
 refine OpsK.nil (hK _ _ fun a' hf' => ?_)
 clear hK K HF
 have HF : Fr 13 [] [(2, .pointer (some ⟨w.heap.size, 0, none⟩)), (3, .pointer (some ⟨w.heap.size + 1, 0, none⟩)), (4, .pointer (some ⟨w.heap.size + 1 + 1, 0, none⟩))] a' := hf'.sub ⟨rfl, rfl, rfl, trivial⟩
 clear hf'
 have hL := (((Laid.nil w).snoc (.cells #[.slice A0 l0.length c0] 22)).snoc (.cells #[.slice A1 l1.length c1] 37)).snoc (.cells #[.string ⟨#[]⟩] 9)
 generalize (((w.alloc (.cells #[.slice A0 l0.length c0] 22)).alloc (.cells #[.slice A1 l1.length c1] 37)).alloc (.cells #[.string ⟨#[]⟩] 9)) = W at hL ⊢
 have hsz : W.heap.size = w.heap.size + 3 := hL.size
 have hb0 := hL.below
 have g0 : W.heap[w.heap.size]? = _ := hL.heap (i := 0) rfl
 have g1 : W.heap[w.heap.size + 1]? = _ := hL.heap (i := 1) rfl
 have g2 : W.heap[w.heap.size + 1 + 1]? = _ := hL.heap (i := 2) rfl
 have HC : Aside0 (Calls Tryz.prog 37 #[.func (.func 64) #[] #[.pointer (some ⟨w.heap.size, 0, none⟩), .pointer (some ⟨w.heap.size + 1, 0, none⟩), .pointer (some ⟨w.heap.size + 1 + 1, 0, none⟩)]] W (Answered (w.heap.size + 1 + 1) 9 (.string ⟨#[]⟩) (textOf l0 l1) (fun _ _ v s => v = Value.string s) W)) := ⟨answered_q 64 _ _ _ _ _ _ W enters64 g2 (fun _ _ _ _ _ h _ => h) fun w1 h1 => by
  have k0 := (h1.block (w.heap.size) (by omega)).trans g0
  have k1 := (h1.block (w.heap.size + 1) (by omega)).trans g1
  have k2 := (h1.block (w.heap.size + 1 + 1) (by omega)).trans g2
  have hbw : Below w.heap.size w w1 := below_then hb0 hb0.size h1
  exact text_question _ _ _ A0 c0 l0 A1 c1 l1 _ w1 k0 k1 k2 (Kd.C_below HHhr0.out hbw) hc0 (Kd.C_below HHhr1.out hbw) hl5⟩
 have HB0 := Aside0.mk hb0
 clear hL hb0 g0 g1 g2
 refine wpIn_seq ?_
 refine wpIn_region_k (fun _ => trivial) rfl wideC HF fun K hK => ?_
 iterate 2 (refine OpsK.step rfl rfl rfl ?_; go_simp)
 refine HC.out.mono ?_
 rintro e w2 ⟨hkp, hp⟩
 have hb2 : Below w.heap.size w w2 := hkp.below HB0.out (by omega)
 cases ha : textOf l0 l1 with
 | error p =>
  obtain ⟨x, y⟩ := p
  rw [ha] at hp
  obtain ⟨rfl, g⟩ := hp
  have u1 := cell_of g
  have u2 := frozen_of g
  have hb3 : Below w.heap.size w (w2.setCell ⟨w.heap.size + 1 + 1, 0, none⟩ (.string ⟨#[]⟩)) := hb2.setCell (by show w.heap.size ≤ w.heap.size + 1 + 1; omega) _
  have u3 := cell_of (one_setCell (u := .string ⟨#[]⟩) g)
  have HG := Aside0.mk g
  have HB3 := Aside0.mk hb3
  have HA := Aside0.mk ha
  have HU3 := Aside0.mk u3
  have HKP := Aside0.mk hkp
  clear g hb3 ha u3 hb2 hkp
  dsimp only
  iterate 4 (refine OpsK.step rfl rfl rfl ?_; go_simp)
  refine OpsK.nil (hK _ _ fun a' hf' => ?_)
  clear hK K HF
  have HF : Fr 13 [] [(4, .pointer (some ⟨w.heap.size + 1 + 1, 0, none⟩)), (5, .int .i64 y)] a' := hf'.sub ⟨rfl, rfl, trivial⟩
  clear hf'
  refine wpIn_seq ?_
  refine wpIn_region_k (fun _ => trivial) rfl wideC HF fun K hK => ?_
  iterate 4 (refine OpsK.step rfl rfl rfl ?_; go_simp)
  refine OpsK.nil (hK _ _ fun a9 hf' => ?_)
  clear hK K HF
  have HF : Fr 13 [] [(4, .pointer (some ⟨w.heap.size + 1 + 1, 0, none⟩)), (5, .int .i64 y)] a9 := hf'.sub ⟨rfl, rfl, trivial⟩
  clear hf'
  refine wpIn_ret (bodyPost_ret (results_ct HF rfl rfl rfl Tryz.isAgg9 HU3.out) HF.defs ?_)
  have hd := HDEF.out
  rw [HA.out] at hd
  cases hd
  exact ⟨rfl, HB3.out⟩
 | ok r =>
  rw [ha] at hp
  obtain ⟨rfl, w1, v, hw1, g, hr⟩ := hp
  subst hr
  have u1 := cell_of g
  have u2 := frozen_of g
  have hb3 : Below w.heap.size w (w2.setCell ⟨w.heap.size + 1 + 1, 0, none⟩ (.string r)) := hb2.setCell (by show w.heap.size ≤ w.heap.size + 1 + 1; omega) _
  have u3 := cell_of (one_setCell (u := .string r) g)
  have HG := Aside0.mk g
  have HB3 := Aside0.mk hb3
  have HA := Aside0.mk ha
  have HU3 := Aside0.mk u3
  have HKP := Aside0.mk hkp
  clear g hb3 ha u3 hb2 hkp
  dsimp only
  iterate 4 (refine OpsK.step rfl rfl rfl ?_; go_simp)
  refine OpsK.nil (hK _ _ fun a' hf' => ?_)
  clear hK K HF
  have HF : Fr 13 [] [(4, .pointer (some ⟨w.heap.size + 1 + 1, 0, none⟩)), (5, .int .i64 0)] a' := hf'.sub ⟨rfl, rfl, trivial⟩
  clear hf'
  refine wpIn_seq ?_
  refine wpIn_region_k (fun _ => trivial) rfl wideC HF fun K hK => ?_
  iterate 4 (refine OpsK.step rfl rfl rfl ?_; go_simp)
  refine OpsK.nil (hK _ _ fun a9 hf' => ?_)
  clear hK K HF
  have HF : Fr 13 [] [(4, .pointer (some ⟨w.heap.size + 1 + 1, 0, none⟩)), (5, .int .i64 0)] a9 := hf'.sub ⟨rfl, rfl, trivial⟩
  clear hf'
  refine wpIn_ret (bodyPost_ret (results_ct HF rfl rfl rfl Tryz.isAgg9 HU3.out) HF.defs ?_)
  have hd := HDEF.out
  rw [HA.out] at hd
  cases hd
  exact ⟨rfl, HB3.out⟩
end
section
open Prot (heldOf roundL roundP addL addOne mkLevel mkLevels at_ firesB Good Fits)
attribute [local go_sem] slk sget sput uponK_value uponK_skip uponK_enter
attribute [local go_sem] SteadyRes_value SteadyRes_skip
structure Keeps2 (s1 s2 : Nat) (W w' : World) : Prop where
 os : w'.os = W.os
 tape : w'.tape = W.tape
 output : w'.output = W.output
 size : W.heap.size ≤ w'.heap.size
 block : ∀ k, k < W.heap.size → k ≠ s1 → k ≠ s2 → w'.heap[k]? = W.heap[k]?
def Answered2 {α : Type} (s1 s2 : Nat) (T1 T2 : TypeId) (n1 n2 : Value) (ans : Except (Int × Int) α) (R : World → World → Value → Value → α → Prop) (W : World) (e : Ending) (w' : World) : Prop :=
 Keeps2 s1 s2 W w' ∧ match ans with
  | .error (x, y) => e = .returned (.tuple #[.int .i64 x, .int .i64 y]) ∧ w'.heap[s1]? = some (.cells #[n1] T1 (0, 0)) ∧ w'.heap[s2]? = some (.cells #[n2] T2 (0, 0))
  | .ok a => e = .returned (.tuple #[.int .i64 (-1), .int .i64 0]) ∧ ∃ w1 v1 v2, W.heap.size ≤ w1.heap.size ∧ w'.heap[s1]? = some (.cells #[v1] T1 (0, 0)) ∧ w'.heap[s2]? = some (.cells #[v2] T2 (0, 0)) ∧ R w1 w' v1 v2 a
theorem answered_q2 {α : Type} (g : Nat) (cap : Array Value) (s1 s2 : Nat) (T1 T2 : TypeId) (n1 n2 : Value) (ans : Except (Int × Int) α) (R : World → World → Value → Value → α → Prop) (W : World) (hne : s1 ≠ s2)
  (eg : ∀ args w, (callFunc g args).run Tryz.prog w = .ok (.enter g args) w) (hs1 : W.heap[s1]? = some (.cells #[n1] T1 (0, 0))) (hs2 : W.heap[s2]? = some (.cells #[n2] T2 (0, 0)))
  (hR : ∀ w1 w2 w' v1 v2 a, R w1 w2 v1 v2 a → (∀ k, w1.heap.size ≤ k → k < w2.heap.size → w'.heap[k]? = w2.heap[k]?) → R w1 w' v1 v2 a)
  (hq : ∀ w1, Below W.heap.size W w1 → Calls Tryz.prog g cap w1 (QPost2 w1 s1 s2 ans (R w1))) :
  Calls Tryz.prog 37 #[.func (.func g) #[] cap] W (Answered2 s1 s2 T1 T2 n1 n2 ans R W) := by
 have hl1 := (Array.getElem?_eq_some_iff.1 hs1).1
 have hl2 := (Array.getElem?_eq_some_iff.1 hs2).1
 refine (answered_calls g cap W (fun o w2 => ∃ w1 u2, Below W.heap.size W w1 ∧ W.heap.size + 2 ≤ w1.heap.size ∧ Below w1.heap.size w1 u2 ∧ match ans with
   | .error p => o = some p ∧ w2 = u2
   | .ok a => o = none ∧ ∃ v1 v2, R w1 u2 v1 v2 a ∧ w2 = (u2.setCell ⟨s1, 0, none⟩ v1).setCell ⟨s2, 0, none⟩ v2) eg fun w1 h1 hsz => ?_).mono ?_
 ·refine (hq w1 h1).mono ?_
  rintro e w2 ⟨u2, hb, he⟩
  cases ans with
  | error p =>
   obtain ⟨rfl, rfl⟩ := he
   exact ⟨some p, rfl, hb.block _ (by omega), hb.block _ (by omega), w1, w2, h1, hsz, hb, rfl, rfl⟩
  | ok a =>
   obtain ⟨v1, v2, hr, rfl, rfl⟩ := he
   refine ⟨none, rfl, ?_, ?_, w1, u2, h1, hsz, hb, rfl, v1, v2, hr, rfl⟩
   ·rw [Below.heap_setCell _ _ _ _ (by show W.heap.size ≠ s2; omega), Below.heap_setCell _ _ _ _ (by show W.heap.size ≠ s1; omega)]; exact hb.block _ (by omega)
   ·rw [Below.heap_setCell _ _ _ _ (by show W.heap.size + 1 ≠ s2; omega), Below.heap_setCell _ _ _ _ (by show W.heap.size + 1 ≠ s1; omega)]; exact hb.block _ (by omega)
 ·rintro e w' ⟨o, w2, ⟨w1, u2, h1, hsz, hb, he⟩, hS, rfl⟩
  have hbs := hb.size
  have hbl : ∀ k, k < W.heap.size → u2.heap[k]? = W.heap[k]? := fun k hk => (hb.block k (by omega)).trans (h1.block k hk)
  cases ans with
  | error p =>
   obtain ⟨rfl, rfl⟩ := he
   refine ⟨⟨hS.os.trans (hb.os.trans h1.os), hS.tape.trans (hb.tape.trans h1.tape), hS.output.trans (hb.output.trans h1.output), by have := hS.size; omega, fun k hk _ _ => (hS.block k (by omega) (by omega) (by omega)).trans (hbl k hk)⟩, rfl, ?_, ?_⟩
   ·exact ((hS.block s1 (by omega) (by omega) (by omega)).trans (hbl s1 hl1)).trans hs1
   ·exact ((hS.block s2 (by omega) (by omega) (by omega)).trans (hbl s2 hl2)).trans hs2
  | ok a =>
   obtain ⟨rfl, v1, v2, hr, rfl⟩ := he
   have hss : ((u2.setCell ⟨s1, 0, none⟩ v1).setCell ⟨s2, 0, none⟩ v2).heap.size = u2.heap.size := (size_setCell _ _ _).trans (size_setCell _ _ _)
   have e1 : ((u2.setCell ⟨s1, 0, none⟩ v1).setCell ⟨s2, 0, none⟩ v2).heap[s1]? = some (.cells #[v1] T1 (0, 0)) := by
    rw [Below.heap_setCell _ _ _ _ (by show s1 ≠ s2; exact hne)]
    exact one_setCell ((hbl s1 hl1).trans hs1)
   have e2 : ((u2.setCell ⟨s1, 0, none⟩ v1).setCell ⟨s2, 0, none⟩ v2).heap[s2]? = some (.cells #[v2] T2 (0, 0)) :=
    one_setCell ((Below.heap_setCell _ _ _ _ (by show s2 ≠ s1; exact hne.symm)).trans ((hbl s2 hl2).trans hs2))
   refine ⟨⟨hS.os.trans (hb.os.trans h1.os), hS.tape.trans (hb.tape.trans h1.tape), hS.output.trans (hb.output.trans h1.output), by have := hS.size; omega, fun k hk n1 n2 => ?_⟩, rfl, w1, v1, v2, by omega, ?_, ?_, ?_⟩
   ·rw [hS.block k (by omega) (by omega) (by omega), Below.heap_setCell _ _ _ _ n2, Below.heap_setCell _ _ _ _ n1]; exact hbl k hk
   ·rw [hS.block s1 (by omega) (by omega) (by omega)]; exact e1
   ·rw [hS.block s2 (by omega) (by omega) (by omega)]; exact e2
   ·refine hR w1 u2 w' v1 v2 a hr fun k hk hk2 => ?_
    rw [hS.block k (by omega) (by omega) (by omega), Below.heap_setCell _ _ _ _ (by show k ≠ s2; omega), Below.heap_setCell _ _ _ _ (by show k ≠ s1; omega)]
theorem Keeps2.below {s1 s2 : Nat} {w W w' : World} (k : Keeps2 s1 s2 W w') (hb : Below w.heap.size w W) (h1 : w.heap.size ≤ s1) (h2 : w.heap.size ≤ s2) : Below w.heap.size w w' :=
 ⟨k.os.trans hb.os, k.tape.trans hb.tape, k.output.trans hb.output, Nat.le_trans hb.size k.size, fun j hj => (k.block j (Nat.lt_of_lt_of_le hj hb.size) (by omega) (by omega)).trans (hb.block j hj)⟩
theorem results_cct {P : Program} {fn : Func} {c d t : Nat} {ty tz : TypeId} {l : Slots} {a : Act} {N : Nat} {ds : List Deferred} {w : World} {p q : Addr} {v u x : Value} (hf : Fr N ds l a) (h : fn.results = #[.cell c ty, .cell d tz, .tmp t]) (hc : sget l c = some (.pointer (some p))) (hd : sget l d = some (.pointer (some q))) (ht : sget l t = some x)
  (ha : ∀ w, (isAgg ty).run P w = .ok false w) (hz : ∀ w, (isAgg tz).run P w = .ok false w) (hl : w.cell? p = some v) (hm : w.cell? q = some u) : (results fn a.tmps).run P w = .ok (.tuple #[v, u, x]) w := by
 have h1 := hf.know c _ hc
 have h2 := hf.know t _ ht
 have h3 := hf.know d _ hd
 simp [results, h, h1, h2, h3, ha, hz, hl, hm, go_sem]
structure Still (w W : World) : Prop where
 os : W.os = w.os
 tape : W.tape = w.tape
 output : W.output = w.output
 heap : W.heap = w.heap
theorem Still.store {w W : World} {b : Nat} {v : Value} {T : TypeId} (h : Still w W) (g : w.heap[b]? = some (.cells #[v] T (0, 0))) : Still w (W.setCell ⟨b, 0, none⟩ v) :=
 ⟨h.os, h.tape, h.output, by
  apply Array.ext_getElem?
  intro k
  by_cases hk : k = b
  ·subst hk
   exact (one_setCell (v := v) (h.heap ▸ g)).trans g.symm
  ·exact (Below.heap_setCell _ _ _ _ hk).trans (by rw [h.heap])⟩
theorem Still.below {w W : World} {u : World} (h : Still w W) (hb : Below u.heap.size u w) : Below u.heap.size u W :=
 ⟨h.os.trans hb.os, h.tape.trans hb.tape, h.output.trans hb.output, by rw [h.heap]; exact hb.size, fun k hk => by rw [h.heap]; exact hb.block k hk⟩
def protest_Proves.f (l0 : List S25) (a1 : Int) (l2 : List ByteArray) (l3 : List Int) (a4 : ByteArray) : Option (Bool × Int × Int) := some (match provesOf l0 a1 l2 l3 a4 with | .error p => if p.2 = 0 then (false, 0, 0) else (false, -1, p.2) | .ok r => (r.1, r.2, 0))
set_option maxRecDepth 100000 in
set_option maxHeartbeats 2000000 in
theorem protest_Proves.calls (A0 : Option Addr) (c0 : Nat) (l0 : List S25) (a1 : Int) (A2 : Option Addr) (c2 : Nat) (l2 : List ByteArray) (A3 : Option Addr) (c3 : Nat) (l3 : List Int) (a4 : ByteArray) (r1 : Bool) (r2 r3 : Int) (w : World) (hr0 : Kd.C k25 w A0 l0.length l0) (hc0 : l0.length ≤ c0) (hr2 : Kd.C Kd.string w A2 l2.length l2) (hc2 : l2.length ≤ c2) (hr3 : Kd.C (Kd.int .i64) w A3 l3.length l3) (hc3 : l3.length ≤ c3) (h : protest_Proves.f l0 a1 l2 l3 a4 = some (r1, r2, r3)) :
  Calls Tryz.prog 29 #[.slice A0 l0.length c0, .int .i64 a1, .slice A2 l2.length c2, .slice A3 l3.length c3, .string a4] w fun e w' => e = .returned (.tuple #[.bool r1, .int .i64 r2, .int .i64 r3]) ∧ Below w.heap.size w w' := by
 have hmf : ∀ (fn : Fn) (first cap : Array Value) (w : World), (Instr.makeFunc fn first cap).run Tryz.prog w = .ok (.func fn first cap) w := fun _ _ _ _ => rfl
 have HHhr0 := Aside0.mk hr0
 have HHhr2 := Aside0.mk hr2
 have HHhr3 := Aside0.mk hr3
 have HDEF := Aside0.mk h
 clear h hr0 hr2 hr3
 refine callsK (args := [.slice A0 l0.length c0, .int .i64 a1, .slice A2 l2.length c2, .slice A3 l3.length c3, .string a4]) Tryz.func29 rfl Tryz.ntmps29 (by simp) fun a HF0 => ?_
 have HF : Fr 23 [] [(0, .slice A0 l0.length c0), (1, .int .i64 a1), (2, .slice A2 l2.length c2), (3, .slice A3 l3.length c3), (4, .string a4)] a := HF0
 clear HF0
 refine wpIn_seq ?_
 refine wpIn_region_k (fun _ => trivial) rfl wideC HF fun K hK => ?_
 iterate 8 (refine OpsK.step rfl rfl rfl ?_; go_simp)
 refine OpsK.nil (hK _ _ fun a' hf' => ?_)
 clear hK K HF
 have HF : Fr 23 [] [(5, .pointer (some ⟨w.heap.size, 0, none⟩)), (6, .pointer (some ⟨w.heap.size + 1, 0, none⟩)), (7, .pointer (some ⟨w.heap.size + 1 + 1, 0, none⟩)), (8, .pointer (some ⟨w.heap.size + 1 + 1 + 1, 0, none⟩)), (9, .pointer (some ⟨w.heap.size + 1 + 1 + 1 + 1, 0, none⟩)), (10, .pointer (some ⟨w.heap.size + 1 + 1 + 1 + 1 + 1, 0, none⟩)), (11, .pointer (some ⟨w.heap.size + 1 + 1 + 1 + 1 + 1 + 1, 0, none⟩))] a' := hf'.sub ⟨rfl, rfl, rfl, rfl, rfl, rfl, rfl, trivial⟩
 clear hf'
 have hL := (((((((Laid.nil w).snoc (.cells #[.slice A0 l0.length c0] 22)).snoc (.cells #[.int .i64 a1] 3)).snoc (.cells #[.slice A2 l2.length c2] 23)).snoc (.cells #[.slice A3 l3.length c3] 37)).snoc (.cells #[.string a4] 9)).snoc (.cells #[.bool false] 4)).snoc (.cells #[.int .i64 0] 3)
 generalize (((((((w.alloc (.cells #[.slice A0 l0.length c0] 22)).alloc (.cells #[.int .i64 a1] 3)).alloc (.cells #[.slice A2 l2.length c2] 23)).alloc (.cells #[.slice A3 l3.length c3] 37)).alloc (.cells #[.string a4] 9)).alloc (.cells #[.bool false] 4)).alloc (.cells #[.int .i64 0] 3)) = W at hL ⊢
 have hsz : W.heap.size = w.heap.size + 7 := hL.size
 have hb0 := hL.below
 have g0 : W.heap[w.heap.size]? = _ := hL.heap (i := 0) rfl
 have g1 : W.heap[w.heap.size + 1]? = _ := hL.heap (i := 1) rfl
 have g2 : W.heap[w.heap.size + 1 + 1]? = _ := hL.heap (i := 2) rfl
 have g3 : W.heap[w.heap.size + 1 + 1 + 1]? = _ := hL.heap (i := 3) rfl
 have g4 : W.heap[w.heap.size + 1 + 1 + 1 + 1]? = _ := hL.heap (i := 4) rfl
 have g5 : W.heap[w.heap.size + 1 + 1 + 1 + 1 + 1]? = _ := hL.heap (i := 5) rfl
 have g6 : W.heap[w.heap.size + 1 + 1 + 1 + 1 + 1 + 1]? = _ := hL.heap (i := 6) rfl
 have HC : Aside0 (Calls Tryz.prog 37 #[.func (.func 60) #[] #[.pointer (some ⟨w.heap.size, 0, none⟩), .pointer (some ⟨w.heap.size + 1, 0, none⟩), .pointer (some ⟨w.heap.size + 1 + 1, 0, none⟩), .pointer (some ⟨w.heap.size + 1 + 1 + 1 + 1, 0, none⟩), .pointer (some ⟨w.heap.size + 1 + 1 + 1, 0, none⟩), .pointer (some ⟨w.heap.size + 1 + 1 + 1 + 1 + 1, 0, none⟩), .pointer (some ⟨w.heap.size + 1 + 1 + 1 + 1 + 1 + 1, 0, none⟩)]] W (Answered2 (w.heap.size + 1 + 1 + 1 + 1 + 1) (w.heap.size + 1 + 1 + 1 + 1 + 1 + 1) 4 3 (.bool false) (.int .i64 0) (provesOf l0 a1 l2 l3 a4) (fun _ _ v1 v2 r => v1 = .bool r.1 ∧ v2 = .int .i64 r.2) W)) := ⟨answered_q2 60 _ _ _ _ _ _ _ _ _ W (by omega) enters60 g5 g6 (fun _ _ _ _ _ _ h _ => h) fun w1 h1 => by
  have k0 := (h1.block (w.heap.size) (by omega)).trans g0
  have k1 := (h1.block (w.heap.size + 1) (by omega)).trans g1
  have k2 := (h1.block (w.heap.size + 1 + 1) (by omega)).trans g2
  have k3 := (h1.block (w.heap.size + 1 + 1 + 1) (by omega)).trans g3
  have k4 := (h1.block (w.heap.size + 1 + 1 + 1 + 1) (by omega)).trans g4
  have k5 := (h1.block (w.heap.size + 1 + 1 + 1 + 1 + 1) (by omega)).trans g5
  have k6 := (h1.block (w.heap.size + 1 + 1 + 1 + 1 + 1 + 1) (by omega)).trans g6
  have hbw : Below w.heap.size w w1 := below_then hb0 hb0.size h1
  exact proves_question _ _ _ _ _ _ _ A0 c0 l0 a1 A2 c2 l2 A3 c3 l3 a4 _ _ w1 k0 k1 k2 k4 k3 k5 k6 (by omega) (Kd.C_below HHhr0.out hbw) hc0 (Kd.C_below HHhr2.out hbw) hc2 (Kd.C_below HHhr3.out hbw)⟩
 have HB0 := Aside0.mk hb0
 clear hL hb0 g0 g1 g2 g3 g4 g5 g6
 refine wpIn_seq ?_
 refine wpIn_region_k (fun _ => trivial) rfl wideC HF fun K hK => ?_
 iterate 2 (refine OpsK.step rfl rfl rfl ?_; go_simp)
 refine HC.out.mono ?_
 rintro e w2 ⟨hkp, hp⟩
 have hb2 : Below w.heap.size w w2 := hkp.below HB0.out (by omega) (by omega)
 have hz2 : W.heap.size ≤ w2.heap.size := hkp.size
 cases ha : provesOf l0 a1 l2 l3 a4 with
 | error p =>
  obtain ⟨x, y⟩ := p
  rw [ha] at hp
  obtain ⟨rfl, g1, g2⟩ := hp
  have HG1 := Aside0.mk g1
  have HG2 := Aside0.mk g2
  have HB2 := Aside0.mk hb2
  have HA := Aside0.mk ha
  have HKP := Aside0.mk hkp
  clear g1 g2 ha hb2 hkp
  dsimp only
  iterate 4 (refine OpsK.step rfl rfl rfl ?_; go_simp)
  refine OpsK.nil (hK _ _ fun a' hf' => ?_)
  clear hK K HF
  have HF : Fr 23 [] [(10, .pointer (some ⟨w.heap.size + 1 + 1 + 1 + 1 + 1, 0, none⟩)), (11, .pointer (some ⟨w.heap.size + 1 + 1 + 1 + 1 + 1 + 1, 0, none⟩)), (12, .int .i64 y)] a' := hf'.sub ⟨rfl, rfl, rfl, trivial⟩
  clear hf'
  by_cases hy : y = 0
  ·subst hy
   refine wpIn_seq (wpIn_seq ?_)
   refine wpIn_region_k (fun _ => trivial) rfl wideC HF fun K hK => ?_
   iterate 2 (refine OpsK.step rfl rfl rfl ?_; go_simp)
   refine OpsK.nil (hK _ _ fun a7 hf' => ?_)
   clear hK K HF
   have HF : Fr 23 [] [(10, .pointer (some ⟨w.heap.size + 1 + 1 + 1 + 1 + 1, 0, none⟩)), (11, .pointer (some ⟨w.heap.size + 1 + 1 + 1 + 1 + 1 + 1, 0, none⟩)), (12, .int .i64 0), (19, .bool false)] a7 := hf'.sub ⟨rfl, rfl, rfl, rfl, trivial⟩
   clear hf'
   refine wpIn_cond_false (HF.tmp rfl) (wpIn_skip ?_)
   simp only [Exit.then, Exit.inBlock, ↓reduceIte]
   refine wpIn_seq ?_
   refine wpIn_region_S (by kernel_rfl) HF (fun W => Still w2 W) (⟨rfl, rfl, rfl, rfl⟩) (by kernel_rfl) fun K hK => ?_
   apply ChainC.val
   ·rfl
   ·rfl
   ·rfl
   ·intro W hW
    have hg := (show W.heap[w.heap.size + 1 + 1 + 1 + 1 + 1]? = _ from hW.heap ▸ HG1.out)
    have q1 := cell_of hg
    have q2 := frozen_of hg
    clear hg
    have HW := Aside0.mk hW
    clear hW
    go_simp
    exact ⟨rfl, HW.out⟩
   apply ChainC.val
   ·rfl
   ·rfl
   ·rfl
   ·intro W hW
    have hg := (show W.heap[w.heap.size + 1 + 1 + 1 + 1 + 1 + 1]? = _ from hW.heap ▸ HG2.out)
    have q1 := cell_of hg
    have q2 := frozen_of hg
    clear hg
    have HW := Aside0.mk hW
    clear hW
    go_simp
    exact ⟨rfl, HW.out⟩
   apply ChainC.val
   ·rfl
   ·rfl
   ·rfl
   ·intro W hW
    have hg := (show W.heap[w.heap.size + 1 + 1 + 1 + 1 + 1]? = _ from hW.heap ▸ HG1.out)
    have q1 := cell_of hg
    have q2 := frozen_of hg
    clear hg
    have HW := Aside0.mk hW
    clear hW
    go_simp
    exact ⟨rfl, HW.out.store HG1.out⟩
   apply ChainC.val
   ·rfl
   ·rfl
   ·rfl
   ·intro W hW
    have hg := (show W.heap[w.heap.size + 1 + 1 + 1 + 1 + 1 + 1]? = _ from hW.heap ▸ HG2.out)
    have q1 := cell_of hg
    have q2 := frozen_of hg
    clear hg
    have HW := Aside0.mk hW
    clear hW
    go_simp
    exact ⟨rfl, HW.out.store HG2.out⟩
   apply ChainC.val
   ·rfl
   ·rfl
   ·rfl
   ·intro W hW
    have HW := Aside0.mk hW
    clear hW
    go_simp
    exact ⟨rfl, HW.out⟩
   refine ChainC.nil (hK _ fun a9 w3 hf' hS' => ?_)
   clear hK K HF
   have HF : Fr 23 [] [(10, .pointer (some ⟨w.heap.size + 1 + 1 + 1 + 1 + 1, 0, none⟩)), (11, .pointer (some ⟨w.heap.size + 1 + 1 + 1 + 1 + 1 + 1, 0, none⟩)), (12, .int .i64 0)] a9 := hf'.sub ⟨rfl, rfl, rfl, trivial⟩
   clear hf'
   have HS' := Aside0.mk hS'
   clear hS'
   have e1 := cell_of (show w3.heap[w.heap.size + 1 + 1 + 1 + 1 + 1]? = _ from HS'.out.heap ▸ HG1.out)
   have e2 := cell_of (show w3.heap[w.heap.size + 1 + 1 + 1 + 1 + 1 + 1]? = _ from HS'.out.heap ▸ HG2.out)
   have HB3 := Aside0.mk (HS'.out.below HB2.out)
   refine wpIn_ret (bodyPost_ret (results_cct HF rfl rfl rfl rfl Tryz.isAgg4 Tryz.isAgg3 e1 e2) HF.defs ?_)
   have hd := HDEF.out
   unfold protest_Proves.f at hd
   rw [HA.out] at hd
   simp only [↓reduceIte] at hd
   cases hd
   exact ⟨rfl, HB3.out⟩
  have HY : Aside0 (¬ y = 0) := ⟨hy⟩
  refine wpIn_seq (wpIn_seq ?_)
  refine wpIn_region_k (fun _ => trivial) rfl wideC HF fun K hK => ?_
  iterate 2 (refine OpsK.step rfl rfl rfl ?_; go_simp)
  have hy := HY.out
  rw [show (y != 0) = true from by simpa using hy]
  refine OpsK.nil (hK _ _ fun a7 hf' => ?_)
  clear hK K HF
  have HF : Fr 23 [] [(10, .pointer (some ⟨w.heap.size + 1 + 1 + 1 + 1 + 1, 0, none⟩)), (11, .pointer (some ⟨w.heap.size + 1 + 1 + 1 + 1 + 1 + 1, 0, none⟩)), (12, .int .i64 y), (19, .bool true)] a7 := hf'.sub ⟨rfl, rfl, rfl, rfl, trivial⟩
  clear hf'
  refine wpIn_cond_true (HF.tmp rfl) (wpIn_seq ?_)
  have u1 := frozen_of HG1.out
  have hs2 : (w2.setCell ⟨w.heap.size + 1 + 1 + 1 + 1 + 1, 0, none⟩ (.bool false)).heap[w.heap.size + 1 + 1 + 1 + 1 + 1 + 1]? = _ := (Below.heap_setCell _ _ _ _ (by show w.heap.size + 1 + 1 + 1 + 1 + 1 + 1 ≠ w.heap.size + 1 + 1 + 1 + 1 + 1; omega)).trans HG2.out
  have u2 := frozen_of hs2
  have q1 := cell_of HG1.out
  have q2 := cell_of hs2
  have HS2 := Aside0.mk hs2
  clear hs2
  refine wpIn_region_k (fun _ => trivial) rfl wideC HF fun K hK => ?_
  iterate 4 (refine OpsK.step rfl rfl rfl ?_; go_simp)
  refine OpsK.nil (hK _ _ fun a9 hf' => ?_)
  clear hK K HF
  have HF : Fr 23 [] [(10, .pointer (some ⟨w.heap.size + 1 + 1 + 1 + 1 + 1, 0, none⟩)), (11, .pointer (some ⟨w.heap.size + 1 + 1 + 1 + 1 + 1 + 1, 0, none⟩)), (12, .int .i64 y)] a9 := hf'.sub ⟨rfl, rfl, rfl, trivial⟩
  clear hf'
  have e2 := cell_of (one_setCell (u := .int .i64 (-1)) HS2.out)
  have e1 := cell_of (show ((w2.setCell ⟨w.heap.size + 1 + 1 + 1 + 1 + 1, 0, none⟩ (.bool false)).setCell ⟨w.heap.size + 1 + 1 + 1 + 1 + 1 + 1, 0, none⟩ (.int .i64 (-1))).heap[w.heap.size + 1 + 1 + 1 + 1 + 1]? = _ from (Below.heap_setCell _ _ _ _ (by show w.heap.size + 1 + 1 + 1 + 1 + 1 ≠ w.heap.size + 1 + 1 + 1 + 1 + 1 + 1; omega)).trans (one_setCell (u := .bool false) HG1.out))
  refine wpIn_ret ?_
  simp only [Exit.then, Exit.inBlock, ↓reduceIte]
  refine (bodyPost_ret (results_cct HF rfl rfl rfl rfl Tryz.isAgg4 Tryz.isAgg3 e1 e2) HF.defs ?_)
  have hd := HDEF.out
  unfold protest_Proves.f at hd
  rw [HA.out] at hd
  simp only [if_neg HY.out] at hd
  cases hd
  exact ⟨rfl, (HB2.out.setCell (by show w.heap.size ≤ w.heap.size + 1 + 1 + 1 + 1 + 1; omega) _).setCell (by show w.heap.size ≤ w.heap.size + 1 + 1 + 1 + 1 + 1 + 1; omega) _⟩
 | ok r =>
  obtain ⟨r1', r2'⟩ := r
  rw [ha] at hp
  obtain ⟨rfl, w1, v1, v2, hw1, g1, g2, hr⟩ := hp
  obtain ⟨hr1, hr2'⟩ := hr
  subst hr1 hr2'
  have HG1 := Aside0.mk g1
  have HG2 := Aside0.mk g2
  have HB2 := Aside0.mk hb2
  have HA := Aside0.mk ha
  have HKP := Aside0.mk hkp
  clear g1 g2 ha hb2 hkp
  dsimp only
  iterate 4 (refine OpsK.step rfl rfl rfl ?_; go_simp)
  refine OpsK.nil (hK _ _ fun a' hf' => ?_)
  clear hK K HF
  have HF : Fr 23 [] [(10, .pointer (some ⟨w.heap.size + 1 + 1 + 1 + 1 + 1, 0, none⟩)), (11, .pointer (some ⟨w.heap.size + 1 + 1 + 1 + 1 + 1 + 1, 0, none⟩)), (12, .int .i64 0)] a' := hf'.sub ⟨rfl, rfl, rfl, trivial⟩
  clear hf'
  refine wpIn_seq (wpIn_seq ?_)
  refine wpIn_region_k (fun _ => trivial) rfl wideC HF fun K hK => ?_
  iterate 2 (refine OpsK.step rfl rfl rfl ?_; go_simp)
  refine OpsK.nil (hK _ _ fun a7 hf' => ?_)
  clear hK K HF
  have HF : Fr 23 [] [(10, .pointer (some ⟨w.heap.size + 1 + 1 + 1 + 1 + 1, 0, none⟩)), (11, .pointer (some ⟨w.heap.size + 1 + 1 + 1 + 1 + 1 + 1, 0, none⟩)), (12, .int .i64 0), (19, .bool false)] a7 := hf'.sub ⟨rfl, rfl, rfl, rfl, trivial⟩
  clear hf'
  refine wpIn_cond_false (HF.tmp rfl) (wpIn_skip ?_)
  simp only [Exit.then, Exit.inBlock, ↓reduceIte]
  refine wpIn_seq ?_
  refine wpIn_region_S (by kernel_rfl) HF (fun W => Still w2 W) (⟨rfl, rfl, rfl, rfl⟩) (by kernel_rfl) fun K hK => ?_
  apply ChainC.val
  ·rfl
  ·rfl
  ·rfl
  ·intro W hW
   have hg := (show W.heap[w.heap.size + 1 + 1 + 1 + 1 + 1]? = _ from hW.heap ▸ HG1.out)
   have q1 := cell_of hg
   have q2 := frozen_of hg
   clear hg
   have HW := Aside0.mk hW
   clear hW
   go_simp
   exact ⟨rfl, HW.out⟩
  apply ChainC.val
  ·rfl
  ·rfl
  ·rfl
  ·intro W hW
   have hg := (show W.heap[w.heap.size + 1 + 1 + 1 + 1 + 1 + 1]? = _ from hW.heap ▸ HG2.out)
   have q1 := cell_of hg
   have q2 := frozen_of hg
   clear hg
   have HW := Aside0.mk hW
   clear hW
   go_simp
   exact ⟨rfl, HW.out⟩
  apply ChainC.val
  ·rfl
  ·rfl
  ·rfl
  ·intro W hW
   have hg := (show W.heap[w.heap.size + 1 + 1 + 1 + 1 + 1]? = _ from hW.heap ▸ HG1.out)
   have q1 := cell_of hg
   have q2 := frozen_of hg
   clear hg
   have HW := Aside0.mk hW
   clear hW
   go_simp
   exact ⟨rfl, HW.out.store HG1.out⟩
  apply ChainC.val
  ·rfl
  ·rfl
  ·rfl
  ·intro W hW
   have hg := (show W.heap[w.heap.size + 1 + 1 + 1 + 1 + 1 + 1]? = _ from hW.heap ▸ HG2.out)
   have q1 := cell_of hg
   have q2 := frozen_of hg
   clear hg
   have HW := Aside0.mk hW
   clear hW
   go_simp
   exact ⟨rfl, HW.out.store HG2.out⟩
  apply ChainC.val
  ·rfl
  ·rfl
  ·rfl
  ·intro W hW
   have HW := Aside0.mk hW
   clear hW
   go_simp
   exact ⟨rfl, HW.out⟩
  refine ChainC.nil (hK _ fun a9 w3 hf' hS' => ?_)
  clear hK K HF
  have HF : Fr 23 [] [(10, .pointer (some ⟨w.heap.size + 1 + 1 + 1 + 1 + 1, 0, none⟩)), (11, .pointer (some ⟨w.heap.size + 1 + 1 + 1 + 1 + 1 + 1, 0, none⟩)), (12, .int .i64 0)] a9 := hf'.sub ⟨rfl, rfl, rfl, trivial⟩
  clear hf'
  have HS' := Aside0.mk hS'
  clear hS'
  have e1 := cell_of (show w3.heap[w.heap.size + 1 + 1 + 1 + 1 + 1]? = _ from HS'.out.heap ▸ HG1.out)
  have e2 := cell_of (show w3.heap[w.heap.size + 1 + 1 + 1 + 1 + 1 + 1]? = _ from HS'.out.heap ▸ HG2.out)
  have HB3 := Aside0.mk (HS'.out.below HB2.out)
  refine wpIn_ret (bodyPost_ret (results_cct HF rfl rfl rfl rfl Tryz.isAgg4 Tryz.isAgg3 e1 e2) HF.defs ?_)
  have hd := HDEF.out
  unfold protest_Proves.f at hd
  rw [HA.out] at hd
  cases hd
  exact ⟨rfl, HB3.out⟩
end
end Go.Proofs.YtlhkeohcickiaaaGreatDoor.E

