/- Part 28 of 36 of the proof of ProtestProofs: lemmas, without conditions. -/
import Derived.Test.YtlhkeohcickiaaaGreatDoorKP26
import Derived.Test.YtlhkeohcickiaaaGreatDoorKP27
import Derived.Test.YtlhkeohcickiaaaGreatDoorKP24
import Derived.Deep.Upon
import Derived.Test.YtlhkeohcickiaaaGreatDoorKP22
set_option linter.all false
namespace Go.Proofs.YtlhkeohcickiaaaGreatDoor.E
open Go.RowKit Go.Proofs.YtlhkeohcickiaaaGreatDoor.H Go.Proofs.YtlhkeohcickiaaaGreatDoorW.PrintWords Go.Proofs.YtlhkeohcickiaaaGreatDoorW.PrintLast Go.Proofs.YtlhkeohcickiaaaGreatDoorW.PrintMore
section
theorem bytes_inj (a b : ByteArray) : a.toList = b.toList ↔ a = b := by
 constructor
 ·intro h
  rw [Lib.toList_data, Lib.toList_data] at h
  rw [← Lib.mk_data a, ← Lib.mk_data b, h]
 ·rintro rfl; rfl
theorem Has_loop (l : List ByteArray) (a : ByteArray) (hl : l.length ≤ 9223372036854775807) : ∀ (d k i : Nat), i ≤ l.length → l.length - i = d → d < k → besomref09_Has.l0 k l a (i : Int) = some (decide (a ∈ l.drop i)) := by
 intro d
 induction d with
 | zero =>
  intro k i h1 h2 h3
  obtain ⟨k, rfl⟩ : ∃ m, k = m + 1 := ⟨k - 1, by omega⟩
  simp only [besomref09_Has.l0]
  rw [if_neg (by omega), List.drop_of_length_le (by omega)]
  rfl
 | succ d ih =>
  intro k i h1 h2 h3
  obtain ⟨k, rfl⟩ : ∃ m, k = m + 1 := ⟨k - 1, by omega⟩
  have hi : i < l.length := by omega
  have hn := ih k (i + 1) (by omega) (by omega) (by omega)
  have hw : wrap64 ((i : Int) + 1) = ((i + 1 : Nat) : Int) := by rw [wrap64_of (by omega) (by omega)]; omega
  have hg : l.getD i ByteArray.empty = l[i] := by simp [List.getD_eq_getElem?_getD, List.getElem?_eq_getElem hi]
  simp only [besomref09_Has.l0]
  rw [if_pos (by omega), if_pos (by omega), hw, hn, rdOf_nat, hg, List.drop_eq_getElem_cons hi]
  generalize l[i] = x
  generalize List.drop (i + 1) l = t
  by_cases e : x = a
  ·rw [if_pos (by rw [e]), ← e]; simp
  ·rw [if_neg (fun h => e ((bytes_inj _ _).1 h))]
   have e' : ¬ a = x := fun h => e h.symm
   simp [e']
theorem Has_eq (l : List ByteArray) (a : ByteArray) (k : Nat) (hl : l.length ≤ 9223372036854775807) (hk : l.length < k) : besomref09_Has.f k l a = some (decide (a ∈ l)) := by
 have := Has_loop l a hl l.length k 0 (by omega) (by omega) hk
 simpa [besomref09_Has.f] using this
theorem in_eq (a b c : Int) : besomref09_in.f a b c = some (decide (b ≤ a) && decide (a ≤ c)) := by
 unfold besomref09_in.f besomref02_In.f
 by_cases h : b ≤ a <;> simp [h]
theorem Stands_eq (a0 : ByteArray) (a1 a2 : Int) (l3 l4 : List ByteArray) (a5 : ByteArray) (ed : Int) : besomref09_Stands.f a0 a1 a2 l3 l4 a5 ed = some (decide (a1 ≤ ed) && decide (ed ≤ a2)) := by
 unfold besomref09_Stands.f
 simp [in_eq]
theorem CC_loop (l m : List ByteArray) (a0 : ByteArray) (a1 a2 : Int) (a5 : ByteArray) (hl : l.length ≤ 9223372036854775807) (hm : m.length ≤ 9223372036854775807) : ∀ (d k i : Nat), i ≤ l.length → l.length - i = d → d + m.length < k →
  besomref09_CheckClause.l0 k (i : Int) a0 a1 a2 l m a5 = some (!(l.drop i).any fun s => decide (s ∈ m)) := by
 intro d
 induction d with
 | zero =>
  intro k i h1 h2 h3
  obtain ⟨k, rfl⟩ : ∃ m, k = m + 1 := ⟨k - 1, by omega⟩
  simp only [besomref09_CheckClause.l0]
  rw [if_neg (by omega), List.drop_of_length_le (by omega)]
  rfl
 | succ d ih =>
  intro k i h1 h2 h3
  obtain ⟨k, rfl⟩ : ∃ m, k = m + 1 := ⟨k - 1, by omega⟩
  have hi : i < l.length := by omega
  have hn := ih k (i + 1) (by omega) (by omega) (by omega)
  have hw : wrap64 ((i : Int) + 1) = ((i + 1 : Nat) : Int) := by rw [wrap64_of (by omega) (by omega)]; omega
  have hg : l.getD i ByteArray.empty = l[i] := by simp [List.getD_eq_getElem?_getD, List.getElem?_eq_getElem hi]
  simp only [besomref09_CheckClause.l0]
  rw [if_pos (by omega), if_pos (by omega), hw, hn, rdOf_nat, hg, Has_eq _ _ _ hm (by omega), List.drop_eq_getElem_cons hi]
  simp only [Option.bind_some]
  generalize l[i] = x
  generalize List.drop (i + 1) l = t
  by_cases e : x ∈ m <;> simp [e]
theorem disj_swap (l m : List ByteArray) : (!l.any fun s => decide (s ∈ m)) = disjB l m := by
 unfold disjB
 congr 1
 rw [Bool.eq_iff_iff]
 simp only [List.any_eq_true, decide_eq_true_eq]
 exact ⟨fun ⟨x, h1, h2⟩ => ⟨x, h2, h1⟩, fun ⟨x, h1, h2⟩ => ⟨x, h2, h1⟩⟩
theorem CheckClause_eq (a0 : ByteArray) (a1 a2 : Int) (l m : List ByteArray) (a5 : ByteArray) (k : Nat) (hl : l.length ≤ 9223372036854775807) (hm : m.length ≤ 9223372036854775807) (hk : l.length + m.length + 41 < k) :
  besomref09_CheckClause.f k a0 a1 a2 l m a5 = some (okB a0 a1 a2 l m a5) := by
 have hj : ∀ b, besomref09_CheckClause.j0 k b a0 a1 a2 l m a5 = some (if b = true then false else disjB l m) := by
  intro b
  obtain ⟨k, rfl⟩ : ∃ m, k = m + 1 := ⟨k - 1, by omega⟩
  simp only [besomref09_CheckClause.j0]
  have := CC_loop l m a0 a1 a2 a5 hl hm l.length k 0 (by omega) (by omega) (by omega)
  rw [List.drop_zero, disj_swap] at this
  cases b
  ·exact this
  ·rfl
 unfold besomref09_CheckClause.f okB
 simp only [hj, Name_eq _ _ (show 40 ≤ k by omega), in_eq, names_eq _ _ _ hl (show l.length + 40 < k by omega), names_eq _ _ _ hm (show m.length + 40 < k by omega), Option.bind_some]
 by_cases h1 : nameB a0 = true
 case neg => rw [if_neg h1]; simp [Bool.not_eq_true _ ▸ h1]
 rw [if_pos h1, h1]
 by_cases h2 : nameB a5 = true
 case neg => rw [if_neg h2]; simp [Bool.not_eq_true _ ▸ h2]
 rw [if_pos h2, h2]
 by_cases h3 : (decide (0 ≤ a1) && decide (a1 ≤ a2)) = true
 case neg => rw [if_neg h3]; simp [Bool.not_eq_true _ ▸ h3]
 rw [if_pos h3, h3]
 by_cases h4 : a2 > 1000
 ·rw [if_pos h4]; have : ¬ a2 ≤ 1000 := by omega
  simp [this]
 ·rw [if_neg h4]
  have : a2 ≤ 1000 := by omega
  by_cases h5 : risingB l 8 = true
  case neg => rw [if_neg h5]; simp [Bool.not_eq_true _ ▸ h5]
  rw [if_pos h5, h5]
  cases risingB m 8 <;> simp [this]
theorem Fires_loop1 (held : List ByteArray) (l m : List ByteArray) (a0 : ByteArray) (a1 a2 ed : Int) (a5 : ByteArray) (hh : held.length ≤ 9223372036854775807) (hm : m.length ≤ 9223372036854775807) : ∀ (d k i : Nat), i ≤ m.length → m.length - i = d → d + held.length < k →
  besomref09_Fires.l1 k ed held (i : Int) a0 a1 a2 l m a5 = some (!((m.drop i).any fun s => decide (s ∈ held)) && (decide (a1 ≤ ed) && decide (ed ≤ a2))) := by
 intro d
 induction d with
 | zero =>
  intro k i h1 h2 h3
  obtain ⟨k, rfl⟩ : ∃ m, k = m + 1 := ⟨k - 1, by omega⟩
  simp only [besomref09_Fires.l1]
  rw [if_neg (by omega), List.drop_of_length_le (by omega), Stands_eq]
  rfl
 | succ d ih =>
  intro k i h1 h2 h3
  obtain ⟨k, rfl⟩ : ∃ m, k = m + 1 := ⟨k - 1, by omega⟩
  have hi : i < m.length := by omega
  have hn := ih k (i + 1) (by omega) (by omega) (by omega)
  have hw : wrap64 ((i : Int) + 1) = ((i + 1 : Nat) : Int) := by rw [wrap64_of (by omega) (by omega)]; omega
  have hg : m.getD i ByteArray.empty = m[i] := by simp [List.getD_eq_getElem?_getD, List.getElem?_eq_getElem hi]
  simp only [besomref09_Fires.l1]
  rw [if_pos (by omega), if_pos (by omega), hw, hn, rdOf_nat, hg, Has_eq _ _ _ hh (by omega), List.drop_eq_getElem_cons hi]
  simp only [Option.bind_some]
  generalize m[i] = x
  generalize List.drop (i + 1) m = t
  by_cases e : x ∈ held <;> simp [e]
theorem Fires_loop0 (held : List ByteArray) (l m : List ByteArray) (a0 : ByteArray) (a1 a2 ed : Int) (a5 : ByteArray) (hh : held.length ≤ 9223372036854775807) (hl : l.length ≤ 9223372036854775807) (hm : m.length ≤ 9223372036854775807) : ∀ (d k i : Nat), i ≤ l.length → l.length - i = d → d + held.length + m.length + 1 < k →
  besomref09_Fires.l0 k ed held (i : Int) a0 a1 a2 l m a5 = some ((l.drop i).all (fun s => decide (s ∈ held)) && (!(m.any fun s => decide (s ∈ held)) && (decide (a1 ≤ ed) && decide (ed ≤ a2)))) := by
 intro d
 induction d with
 | zero =>
  intro k i h1 h2 h3
  obtain ⟨k, rfl⟩ : ∃ m, k = m + 1 := ⟨k - 1, by omega⟩
  simp only [besomref09_Fires.l0]
  have := Fires_loop1 held l m a0 a1 a2 ed a5 hh hm m.length k 0 (by omega) (by omega) (by omega)
  rw [List.drop_zero] at this
  rw [if_neg (by omega), List.drop_of_length_le (by omega)]
  simpa using this
 | succ d ih =>
  intro k i h1 h2 h3
  obtain ⟨k, rfl⟩ : ∃ m, k = m + 1 := ⟨k - 1, by omega⟩
  have hi : i < l.length := by omega
  have hn := ih k (i + 1) (by omega) (by omega) (by omega)
  have hw : wrap64 ((i : Int) + 1) = ((i + 1 : Nat) : Int) := by rw [wrap64_of (by omega) (by omega)]; omega
  have hg : l.getD i ByteArray.empty = l[i] := by simp [List.getD_eq_getElem?_getD, List.getElem?_eq_getElem hi]
  simp only [besomref09_Fires.l0]
  rw [if_pos (by omega), if_pos (by omega), hw, hn, rdOf_nat, hg, Has_eq _ _ _ hh (by omega), List.drop_eq_getElem_cons hi]
  simp only [Option.bind_some]
  generalize l[i] = x
  generalize List.drop (i + 1) l = t
  by_cases e : x ∈ held <;> simp [e]
theorem contains_mem (l : List ByteArray) (s : ByteArray) : @List.contains ByteArray instBEqOfDecidableEq l s = decide (s ∈ l) := by rw [Bool.eq_iff_iff]; simp
theorem Fires_eq (x : S25) (ed : Int) (held : List ByteArray) (k : Nat) (hh : held.length ≤ 9223372036854775807) (hl : x.f3.length ≤ 9223372036854775807) (hm : x.f4.length ≤ 9223372036854775807) (hk : x.f3.length + x.f4.length + held.length + 1 < k) :
  besomref09_Fires.f k x.f0 x.f1 x.f2 x.f3 x.f4 x.f5 ed held = some (Prot.firesB ed held (toC x)) := by
 have := Fires_loop0 held x.f3 x.f4 x.f0 x.f1 x.f2 ed x.f5 hh hl hm x.f3.length k 0 (by omega) (by omega) (by omega)
 rw [List.drop_zero] at this
 unfold besomref09_Fires.f
 refine this.trans ?_
 unfold Prot.firesB Prot.standsB
 simp only [contains_mem, toC]
 congr 1
 generalize (x.f3.all fun s => decide (s ∈ held)) = b
 generalize (x.f4.any fun s => decide (s ∈ held)) = c
 by_cases p : x.f1 ≤ ed <;> by_cases q : ed ≤ x.f2 <;> cases b <;> cases c <;> simp [p, q]
end
section
theorem own_slice {W : World} {base : Nat} {v : Value} {n : Nat} {xs : List Value} (h : W.ownsRow base 9 1 v n xs) : ∃ A c, v = .slice A n c ∧ n ≤ c := by
 rcases h.2 with ⟨rfl, rfl⟩ | ⟨g, cap, cur, rfl, _, _, hnc, _⟩
 ·exact ⟨_, _, rfl, Nat.le_refl _⟩
 ·exact ⟨_, _, rfl, hnc⟩
theorem spread_run {W : World} (base : Nat) (v : Value) (xs ys : List ByteArray) (hown : W.ownsRow base 9 1 v xs.length (xs.map Value.string)) (A : Option Addr) (c : Nat) (hr : Kd.C Kd.string W A ys.length ys) (hbase : base ≤ W.heap.size) (hl : xs.length + ys.length ≤ 1000) :
  ∃ v1 W1, (Builtin.append_ #[23, 23] 23 #[v, .slice A ys.length c]).run Tryz.prog W = .ok v1 W1 ∧ W1.ownsRow base 9 1 v1 (xs ++ ys).length ((xs ++ ys).map Value.string) ∧ W.grownBy W1 v.ownBlock ∧
   (v1.ownBlock = v.ownBlock ∨ v1.ownBlock = some W.heap.size) := by
 obtain ⟨i0, hi, hzz⟩ := Option.map_eq_some_iff.1 info9
 simp only [Prod.mk.injEq] at hzz
 obtain ⟨hz0, hz1, hz2⟩ := hzz
 cases ys with
 | nil =>
  obtain ⟨A', c', rfl, hle⟩ := own_slice hown
  refine ⟨_, W, run_append_nothing W 23 23 23 9 i0 Tryz.underlying23 hi A' xs.length c' hle _ ⟨.inl ⟨9, Tryz.underlying23⟩, fun w' => by rfl, ?_, ?_, by simp, by simp⟩, by simpa using hown, ⟨rfl, rfl, rfl, Nat.le_refl _, fun _ _ _ => rfl⟩, .inl rfl⟩
  ·cases A <;> simp [Builtin.firstCells, loadCells, loadCellsFrom]
  ·cases A <;> simp [Builtin.firstCells, loadCells, loadCellsFrom]
 | cons y0 ys0 =>
  obtain ⟨ys, hys⟩ : ∃ ys, ys = y0 :: ys0 := ⟨_, rfl⟩
  rw [← hys] at hr hl ⊢
  have hpos : 0 < ys.length := by rw [hys]; simp
  obtain ⟨ad, rfl, _⟩ := Kd.at_string hr 0 (by omega) (by omega)
  obtain ⟨v1, w1, h1, h2, h3, _, h5⟩ := run_append_own_at (P := Tryz.prog) (w := W) base 23 23 9 i0 (.string ⟨#[]⟩) 1 16 Tryz.underlying23 hi hz0 hz1 hz2 rfl (by decide) v xs.length (xs.map Value.string) hown
   ad ys.length c (ys.map Value.string) (by simp) (fun j u hj => by
    have hj' : j < ys.length := by have := (List.getElem?_eq_some_iff.1 hj).1; simpa using this
    obtain ⟨ad', e, hc⟩ := Kd.at_string hr (j : Int) (by omega) (by omega)
    cases e
    have hu : u = .string ys[j] := by
     rw [List.getElem?_map, List.getElem?_eq_getElem hj'] at hj
     exact (Option.some.inj hj).symm
    rw [hu]
    simp only [Int.toNat_natCast] at hc
    rw [hc, rdOf_nat]
    simp [List.getD_eq_getElem?_getD, List.getElem?_eq_getElem hj']) (fun u hu => by
    obtain ⟨s, _, rfl⟩ := List.mem_map.1 hu
    rfl) (by simp only [maxLen]; omega) (by omega) hbase
  exact ⟨v1, w1, h1, by simpa using h2, h3, h5⟩
theorem one_run {W : World} (base : Nat) (v : Value) (xs : List ByteArray) (s : ByteArray) (hown : W.ownsRow base 9 1 v xs.length (xs.map Value.string)) (g : Nat) (hg : W.heap[g]? = some (.cells #[.string s] 9 (0, 0))) (hbase : base ≤ W.heap.size) (hl : xs.length ≤ 1000) :
  ∃ v1 W1, (Builtin.append_ #[23, 23] 23 #[v, .slice (some ⟨g, 0, none⟩) 1 1]).run Tryz.prog W = .ok v1 W1 ∧ W1.ownsRow base 9 1 v1 (xs ++ [s]).length ((xs ++ [s]).map Value.string) ∧ W.grownBy W1 v.ownBlock ∧
   (v1.ownBlock = v.ownBlock ∨ v1.ownBlock = some W.heap.size) := by
 obtain ⟨i0, hi, hzz⟩ := Option.map_eq_some_iff.1 info9
 simp only [Prod.mk.injEq] at hzz
 obtain ⟨hz0, hz1, hz2⟩ := hzz
 obtain ⟨v1, w1, h1, h2, h3, _, h5⟩ := run_append_own_at (P := Tryz.prog) (w := W) base 23 23 9 i0 (.string ⟨#[]⟩) 1 16 Tryz.underlying23 hi hz0 hz1 hz2 rfl (by decide) v xs.length (xs.map Value.string) hown
   ⟨g, 0, none⟩ 1 1 [.string s] rfl (by simpa using World.news_of_block (cs := #[Value.string s]) (t := 9) (fr := (0, 0)) hg) (fun u hu => by
    obtain rfl := List.mem_singleton.1 hu
    rfl) (by simp only [maxLen]; omega) (by omega) hbase
 exact ⟨v1, w1, h1, by simpa using h2, h3, h5⟩
theorem own_new (w : World) (base : Nat) (h : base ≤ w.heap.size) : (w.alloc (.cells #[] 9)).ownsRow base 9 1 (.slice (some ⟨w.heap.size, 0, none⟩) 0 0) ([] : List ByteArray).length (([] : List ByteArray).map Value.string) :=
 ⟨rfl, .inr ⟨w.heap.size, 0, #[], rfl, h, World.alloc_heap_new w _, Nat.le_refl _, by decide, rfl, rfl⟩⟩
theorem two_appends {W0 Wb : World} (base g0 gs : Nat) (hb : Below W0.heap.size W0 Wb) (hbase : base ≤ W0.heap.size) (h0 : Wb.ownsRow base 9 1 (.slice (some ⟨g0, 0, none⟩) 0 0) ([] : List ByteArray).length (([] : List ByteArray).map Value.string)) (hg0 : W0.heap.size ≤ g0) (s : ByteArray)
  (hgs : Wb.heap[gs]? = some (.cells #[.string s] 9 (0, 0))) (hne : gs ≠ g0) (A : Option Addr) (c : Nat) (xs : List ByteArray) (hr : Kd.C Kd.string W0 A xs.length xs) (hl : xs.length ≤ 1000) :
  ∃ v66 Wc v70 Wd, (Builtin.append_ #[23, 23] 23 #[.slice (some ⟨g0, 0, none⟩) 0 0, .slice A xs.length c]).run Tryz.prog Wb = .ok v66 Wc ∧ (Builtin.append_ #[23, 23] 23 #[v66, .slice (some ⟨gs, 0, none⟩) 1 1]).run Tryz.prog Wc = .ok v70 Wd ∧
   Below W0.heap.size W0 Wc ∧ Below W0.heap.size W0 Wd ∧ Kd.R Kd.string 9 Wd base (fun _ => True) v70 (xs ++ [s]) ∧ ∃ A n c, v70 = .slice A n c := by
 have hz := hb.size
 obtain ⟨v66, Wc, r1, o1, g1, a1⟩ := spread_run (W := Wb) base _ [] xs h0 A c (Kd.C_below hr hb) (by omega) (by simpa using hl)
 have hblk : ∀ k, v66.ownBlock = some k → W0.heap.size ≤ k := fun k hk => by
  rcases a1 with a1 | a1
  ·rw [a1] at hk; simp only [Value.ownBlock, Option.some.injEq] at hk; omega
  ·rw [a1] at hk; simp only [Option.some.injEq] at hk; omega
 have hbc : Below W0.heap.size W0 Wc := ⟨g1.os.trans hb.os, g1.tape.trans hb.tape, g1.output.trans hb.output, Nat.le_trans hz g1.size, fun k hk => (g1.block k (by omega) (by simp only [Value.ownBlock, ne_eq, Option.some.injEq]; omega)).trans (hb.block k hk)⟩
 have hgs' : Wc.heap[gs]? = some (.cells #[.string s] 9 (0, 0)) := (g1.block gs (Array.getElem?_eq_some_iff.1 hgs).1 (by simp only [Value.ownBlock, ne_eq, Option.some.injEq]; exact hne)).trans hgs
 have hz2 := hbc.size
 obtain ⟨v70, Wd, r2, o2, g2, a2⟩ := one_run (W := Wc) base v66 ([] ++ xs) s o1 gs hgs' (by omega) (by simpa using hl)
 refine ⟨v66, Wc, v70, Wd, r1, r2, hbc, ?_, by simpa using R_of_own o2, ?_⟩
 case refine_2 =>
  obtain ⟨A, c, e, _⟩ := own_slice o2
  exact ⟨_, _, _, e⟩
 exact ⟨g2.os.trans hbc.os, g2.tape.trans hbc.tape, g2.output.trans hbc.output, Nat.le_trans hz2 g2.size, fun k hk => (g2.block k (by omega) (fun e => by have := hblk k e.symm; omega)).trans (hbc.block k hk)⟩
theorem two_appends' {W0 Wb : World} (base g0 : Nat) (hb : Below W0.heap.size W0 Wb) (hbase : base ≤ W0.heap.size) (h0 : Wb.ownsRow base 9 1 (.slice (some ⟨g0, 0, none⟩) 0 0) ([] : List ByteArray).length (([] : List ByteArray).map Value.string)) (hg0 : W0.heap.size ≤ g0) (s : ByteArray)
  (A : Option Addr) (c : Nat) (xs : List ByteArray) (hr : Kd.C Kd.string W0 A xs.length xs) (hl : xs.length ≤ 1000) :
  ∃ v66 Wc v70 Wd, (Builtin.append_ #[23, 23] 23 #[.slice (some ⟨g0, 0, none⟩) 0 0, .slice A xs.length c]).run Tryz.prog Wb = .ok v66 Wc ∧ (Builtin.append_ #[23, 23] 23 #[v66, .slice (some ⟨Wc.heap.size, 0, none⟩) 1 1]).run Tryz.prog (Wc.alloc (.cells #[.string s] 9)) = .ok v70 Wd ∧
   Below W0.heap.size W0 Wc ∧ Below W0.heap.size W0 Wd ∧ Kd.R Kd.string 9 Wd base (fun _ => True) v70 (xs ++ [s]) ∧ ∃ A n c, v70 = .slice A n c := by
 have hz := hb.size
 obtain ⟨v66, Wc, r1, o1, g1, a1⟩ := spread_run (W := Wb) base _ [] xs h0 A c (Kd.C_below hr hb) (by omega) (by simpa using hl)
 have hblk : ∀ k, v66.ownBlock = some k → W0.heap.size ≤ k := fun k hk => by
  rcases a1 with a1 | a1
  ·rw [a1] at hk; simp only [Value.ownBlock, Option.some.injEq] at hk; omega
  ·rw [a1] at hk; simp only [Option.some.injEq] at hk; omega
 have hbc : Below W0.heap.size W0 Wc := ⟨g1.os.trans hb.os, g1.tape.trans hb.tape, g1.output.trans hb.output, Nat.le_trans hz g1.size, fun k hk => (g1.block k (by omega) (by simp only [Value.ownBlock, ne_eq, Option.some.injEq]; omega)).trans (hb.block k hk)⟩
 have hz2 := hbc.size
 have hbd : Below W0.heap.size W0 (Wc.alloc (.cells #[.string s] 9)) := hbc.alloc hz2 _
 have hz3 := hbd.size
 obtain ⟨v70, Wd, r2, o2, g2, a2⟩ := one_run (W := Wc.alloc (.cells #[.string s] 9)) base v66 ([] ++ xs) s (o1.alloc _) Wc.heap.size (World.alloc_heap_new Wc _) (by omega) (by simpa using hl)
 refine ⟨v66, Wc, v70, Wd, r1, r2, hbc, ?_, by simpa using R_of_own o2, ?_⟩
 case refine_2 =>
  obtain ⟨A, c, e, _⟩ := own_slice o2
  exact ⟨_, _, _, e⟩
 exact ⟨g2.os.trans hbd.os, g2.tape.trans hbd.tape, g2.output.trans hbd.output, Nat.le_trans hz3 g2.size, fun k hk => (g2.block k (by omega) (fun e => by have := hblk k e.symm; omega)).trans (hbd.block k hk)⟩
end
end Go.Proofs.YtlhkeohcickiaaaGreatDoor.E
namespace Go.Proofs.YtlhkeohcickiaaaGreatDoor.Prot
variable {α : Type} [DecidableEq α] [Inhabited α]
def stepR (lv : α → Nat) (ed : Int) (s : Nat) (book : List (Cl α)) (facts start : List α) (order : List Nat) (i : Nat) : List Nat :=
 if (decide (lv (at_ book i).thn = s) && (firesB ed start (at_ book i) && !(heldOf book facts order).contains (at_ book i).thn)) = true then order ++ [i] else order
def passR (lv : α → Nat) (ed : Int) (s : Nat) (book : List (Cl α)) (facts start : List α) (l order : List Nat) : List Nat := l.foldl (stepR lv ed s book facts start) order
theorem addOne_pre (book : List (Cl α)) (facts : List α) (order : List Nat) (i : Nat) : order <+: addOne book facts order i := by
 unfold addOne; split
 ·exact List.prefix_refl _
 ·exact List.prefix_append _ _
theorem addL_pre (book : List (Cl α)) (facts : List α) : ∀ (l order : List Nat), order <+: addL book facts l order
 | [], _ => List.prefix_refl _
 | i :: l, order => (addOne_pre book facts order i).trans (addL_pre book facts l _)
theorem mkLevel_pre {lv : α → Nat} {ed : Int} {book : List (Cl α)} {facts : List α} {s : Nat} : ∀ (k : Nat) (order o : List Nat), mkLevel lv ed book facts s k order = some o → order <+: o
 | 0, _, _, h => by simp [mkLevel] at h
 | k + 1, order, o, h => by
  unfold mkLevel at h
  simp only at h
  split at h
  ·rw [← Option.some.inj h]; exact List.prefix_refl _
  ·exact (addL_pre book facts _ order).trans (mkLevel_pre k _ _ h)
theorem mkLevels_pre {lv : α → Nat} {ed : Int} {book : List (Cl α)} {facts : List α} {fuel : Nat} : ∀ (n s : Nat) (order o : List Nat), mkLevels lv ed book facts fuel n s order = some o → order <+: o
 | 0, _, order, o, h => by
  rw [← Option.some.inj (show some order = some o from h)]; exact List.prefix_refl _
 | n + 1, s, order, o, h => by
  obtain ⟨o1, h1, h2⟩ := Option.bind_eq_some_iff.1 (show (mkLevel lv ed book facts s fuel order).bind _ = some o from h)
  exact (mkLevel_pre _ _ _ h1).trans (mkLevels_pre n (s + 1) o1 o h2)
theorem stepR_pre (lv : α → Nat) (ed : Int) (s : Nat) (book : List (Cl α)) (facts start : List α) (order : List Nat) (i : Nat) : order <+: stepR lv ed s book facts start order i := by
 unfold stepR; split
 ·exact List.prefix_append _ _
 ·exact List.prefix_refl _
theorem passR_pre (lv : α → Nat) (ed : Int) (s : Nat) (book : List (Cl α)) (facts start : List α) : ∀ (l order : List Nat), order <+: passR lv ed s book facts start l order
 | [], _ => List.prefix_refl _
 | i :: l, order => (stepR_pre lv ed s book facts start order i).trans (passR_pre lv ed s book facts start l _)
theorem held_mono {book : List (Cl α)} {facts : List α} {a b : List Nat} (h : a <+: b) : ∀ x ∈ heldOf book facts a, x ∈ heldOf book facts b := by
 obtain ⟨c, rfl⟩ := h
 intro x hx
 rw [heldOf_append]
 exact List.mem_append_left _ hx
theorem passR_eq {lv : α → Nat} {ed : Int} {s : Nat} {book : List (Cl α)} {facts start : List α} : ∀ (l order : List Nat), (∀ x ∈ start, x ∈ heldOf book facts order) →
  passR lv ed s book facts start l order = addL book facts (l.filter fun i => roundP lv ed s start (at_ book i)) order
 | [], _, _ => rfl
 | i :: l, order, h => by
  show passR lv ed s book facts start l (stepR lv ed s book facts start order i) = _
  rw [passR_eq l _ fun x hx => held_mono (stepR_pre ..) x (h x hx)]
  by_cases hp : roundP lv ed s start (at_ book i) = true
  ·rw [List.filter_cons_of_pos (p := fun i => roundP lv ed s start (at_ book i)) hp]
   show _ = addL book facts _ (addOne book facts order i)
   congr 1
   unfold roundP at hp
   simp only [Bool.and_eq_true] at hp
   unfold stepR addOne
   rw [hp.1, hp.2.1]
   by_cases hc : (heldOf book facts order).contains (at_ book i).thn = true
   ·rw [if_pos hc, hc]; rfl
   ·rw [if_neg hc]
    simp only [Bool.not_eq_true] at hc
    rw [hc]; rfl
  ·rw [List.filter_cons_of_neg (p := fun i => roundP lv ed s start (at_ book i)) hp]
   congr 1
   unfold stepR
   rw [if_neg]
   intro h1
   simp only [Bool.and_eq_true, Bool.not_eq_true', decide_eq_true_eq] at h1
   obtain ⟨h1, h2, h3⟩ := h1
   apply hp
   unfold roundP
   simp only [Bool.and_eq_true, Bool.not_eq_true', decide_eq_true_eq]
   refine ⟨h1, h2, ?_⟩
   cases hs : start.contains (at_ book i).thn with
   | false => rfl
   | true =>
    have := h _ (by simpa using hs)
    have : (heldOf book facts order).contains (at_ book i).thn = true := by simpa using this
    rw [this] at h3; cases h3
theorem round_eq (lv : α → Nat) (ed : Int) (s : Nat) (book : List (Cl α)) (facts : List α) (order : List Nat) :
  passR lv ed s book facts (heldOf book facts order) (List.range book.length) order = addL book facts (roundL lv ed s (heldOf book facts order) book) order := passR_eq _ _ fun _ h => h
theorem level_next {lv : α → Nat} {ed : Int} {s k : Nat} {book : List (Cl α)} {facts : List α} {order o nxt : List Nat} (hn : nxt = passR lv ed s book facts (heldOf book facts order) (List.range book.length) order) (h : mkLevel lv ed book facts s (k + 1) order = some o) :
  if decide (order.length < nxt.length) = true then mkLevel lv ed book facts s k nxt = some o else nxt = o := by
 rw [round_eq] at hn
 unfold mkLevel at h
 simp only at h
 by_cases hl : roundL lv ed s (heldOf book facts order) book = []
 ·rw [if_pos hl] at h
  rw [hl] at hn
  have : nxt = order := hn
  rw [this]
  simp only [Nat.lt_irrefl, decide_false, Bool.false_eq_true, if_false]
  exact Option.some.inj h
 ·rw [if_neg hl, ← hn] at h
  have : order.length < nxt.length := by
   rw [hn]
   refine addL_longer hl fun i hi => ?_
   have := (mem_roundL.1 hi)
   intro hm
   have h2 : roundP lv ed s (heldOf book facts order) (at_ book i) = true := by
    have := hi
    unfold roundL at this
    exact (List.mem_filter.1 this).2
   unfold roundP at h2
   simp only [Bool.and_eq_true, Bool.not_eq_true'] at h2
   have h3 : (heldOf book facts order).contains (at_ book i).thn = true := by simpa using hm
   rw [h3] at h2
   cases h2.2.2
  rw [if_pos (by simpa using this)]
  exact h
theorem mkLevels_above {lv : α → Nat} {ed : Int} {book : List (Cl α)} {facts : List α} {fuel : Nat} : ∀ (n s : Nat) (order : List Nat), (∀ c ∈ book, lv c.thn < s) → 0 < fuel → mkLevels lv ed book facts fuel n s order = some order
 | 0, _, _, _, _ => rfl
 | n + 1, s, order, h, hf => by
  obtain ⟨k, rfl⟩ : ∃ k, fuel = k + 1 := ⟨fuel - 1, by omega⟩
  have hr : roundL lv ed s (heldOf book facts order) book = [] := by
   apply List.eq_nil_iff_forall_not_mem.2
   intro i hi
   unfold roundL at hi
   obtain ⟨h1, h2⟩ := List.mem_filter.1 hi
   have hlt : i < book.length := by simpa using h1
   have := h (at_ book i) (at_mem hlt)
   unfold roundP at h2
   simp only [Bool.and_eq_true, decide_eq_true_eq] at h2
   omega
  show (mkLevel lv ed book facts s (k + 1) order).bind _ = _
  unfold mkLevel
  simp only [hr, if_true, Option.bind_some]
  exact mkLevels_above n (s + 1) order (fun c hc => Nat.lt_succ_of_lt (h c hc)) (by omega)
theorem mkLevels_split {lv : α → Nat} {ed : Int} {book : List (Cl α)} {facts : List α} {fuel : Nat} : ∀ (a b s : Nat) (order : List Nat),
  mkLevels lv ed book facts fuel (a + b) s order = (mkLevels lv ed book facts fuel a s order).bind fun o => mkLevels lv ed book facts fuel b (s + a) o
 | 0, b, s, order => by rw [Nat.zero_add]; rfl
 | a + 1, b, s, order => by
  rw [Nat.add_right_comm]
  show (mkLevel lv ed book facts s fuel order).bind _ = ((mkLevel lv ed book facts s fuel order).bind _).bind _
  rw [Option.bind_assoc]
  congr 1
  funext o
  rw [mkLevels_split a b (s + 1) o]
  congr 1
  funext o'
  rw [Nat.add_assoc, Nat.add_comm 1 a]
theorem made_top {lv : α → Nat} {t1 t2 : Nat} {ed : Int} {book : List (Cl α)} (facts : List α) (hfit : Fits lv book) (h1 : ∀ c ∈ book, lv c.thn ≤ t1) (ht : t1 ≤ t2) : made lv t1 ed book facts = made lv t2 ed book facts := by
 have e1 := (made_spec (ed := ed) facts hfit h1).1
 have e2 := (made_spec (ed := ed) facts hfit fun c hc => Nat.le_trans (h1 c hc) ht).1
 obtain ⟨d, rfl⟩ : ∃ d, t2 = t1 + d := ⟨t2 - t1, by omega⟩
 rw [show t1 + d + 1 = (t1 + 1) + d by omega, mkLevels_split, e1, Option.bind_some, mkLevels_above _ _ _ (fun c hc => by have := h1 c hc; omega) (by omega)] at e2
 exact Option.some.inj e2
end Go.Proofs.YtlhkeohcickiaaaGreatDoor.Prot
namespace Go.Proofs.YtlhkeohcickiaaaGreatDoor.E
open Go.RowKit Go.Proofs.YtlhkeohcickiaaaGreatDoor.H Go.Proofs.YtlhkeohcickiaaaGreatDoorW.PrintWords Go.Proofs.YtlhkeohcickiaaaGreatDoorW.PrintLast Go.Proofs.YtlhkeohcickiaaaGreatDoorW.PrintMore
section
open Prot (heldOf Good Fits at_ firesB stepR passR mkLevel mkLevels)
theorem drawn_below {w w' : World} (h : Drawn0 w w') : Below w.heap.size w w' := by
 obtain ⟨n, rfl⟩ := h
 exact pw_below_drewN (Below.refl _ _) _
theorem has_any (A : Option Addr) (c : Nat) (l : List ByteArray) (s : ByteArray) (w : World) (hr : Kd.C Kd.string w A l.length l) (hc : l.length ≤ c) :
  Calls Tryz.prog 30 #[.slice A l.length c, .string s] w fun e w' => e = .returned (.bool (decide (s ∈ l))) ∧ Below w.heap.size w w' :=
 (besomref09_Has.calls (l.length + 1) A c l s _ w hr hc (Has_eq l s _ hr.2.1 (Nat.lt_succ_self _))).mono fun _ _ h => ⟨h.1, drawn_below h.2⟩
theorem fires_any (x : S25) (A3 : Option Addr) (c3 : Nat) (A4 : Option Addr) (c4 : Nat) (ed : Int) (A : Option Addr) (c : Nat) (l : List ByteArray) (w : World) (g3 : Kd.C Kd.string w A3 x.f3.length x.f3) (l3 : x.f3.length ≤ c3) (g4 : Kd.C Kd.string w A4 x.f4.length x.f4) (l4 : x.f4.length ≤ c4) (hr : Kd.C Kd.string w A l.length l) (hc : l.length ≤ c) :
  Calls Tryz.prog 28 #[.agg #[.string x.f0, .int .i64 x.f1, .int .i64 x.f2, .slice A3 x.f3.length c3, .slice A4 x.f4.length c4, .string x.f5], .int .i64 ed, .slice A l.length c] w fun e w' => e = .returned (.bool (firesB ed l (toC x))) ∧ Below w.heap.size w w' :=
 (besomref09_Fires.calls (x.f3.length + x.f4.length + l.length + 2) x.f0 x.f1 x.f2 A3 c3 x.f3 A4 c4 x.f4 x.f5 ed A c l _ w g3 l3 g4 l4 hr hc (Fires_eq x ed l _ hr.2.1 g3.2.1 g4.2.1 (by omega))).mono fun _ _ h => ⟨h.1, h.2⟩
theorem chk_any (x : S25) (A3 : Option Addr) (c3 : Nat) (A4 : Option Addr) (c4 : Nat) (w : World) (g3 : Kd.C Kd.string w A3 x.f3.length x.f3) (l3 : x.f3.length ≤ c3) (g4 : Kd.C Kd.string w A4 x.f4.length x.f4) (l4 : x.f4.length ≤ c4) :
  Calls Tryz.prog 17 #[.agg #[.string x.f0, .int .i64 x.f1, .int .i64 x.f2, .slice A3 x.f3.length c3, .slice A4 x.f4.length c4, .string x.f5]] w fun e w' => e = .returned (.bool (okC x)) ∧ Below w.heap.size w w' :=
 (besomref09_CheckClause.calls (x.f3.length + x.f4.length + 42) x.f0 x.f1 x.f2 A3 c3 x.f3 A4 c4 x.f4 x.f5 _ w g3 l3 g4 l4 (CheckClause_eq x.f0 x.f1 x.f2 x.f3 x.f4 x.f5 _ g3.2.1 g4.2.1 (by omega))).mono fun _ _ h => ⟨h.1, h.2⟩
abbrev RS (W : World) (base : Nat) (v : Value) (xs : List ByteArray) : Prop := Kd.R Kd.string 9 W base (fun _ => True) v xs
abbrev RI (W : World) (base : Nat) (v : Value) (xs : List Int) : Prop := Kd.R (Kd.int .i64) 3 W base (fun _ => True) v xs
theorem RS.move {W W' : World} {base : Nat} {v : Value} {xs : List ByteArray} (h : RS W base v xs) (hk : ∀ (k : Nat) (cs : Array Value), W.heap[k]? = some (Obj.cells cs 9 (0, 0)) → base ≤ k → W'.heap[k]? = W.heap[k]?) : RS W' base v xs :=
 Kd.R_mono (Kd.R_move (Kd.R_bound h) fun k hk' => by
  obtain ⟨_, hb, hlt, q, hq, cs, hc⟩ := hk'
  have hq9 : q = 9 := by simpa [Kd.string, Kd.scalar, Kd.E] using hq
  subst hq9
  exact hk k cs hc hb) fun _ _ => trivial
theorem RI.move {W W' : World} {base : Nat} {v : Value} {xs : List Int} (h : RI W base v xs) (hk : ∀ (k : Nat) (cs : Array Value), W.heap[k]? = some (Obj.cells cs 3 (0, 0)) → base ≤ k → W'.heap[k]? = W.heap[k]?) : RI W' base v xs :=
 Kd.R_mono (Kd.R_move (Kd.R_bound h) fun k hk' => by
  obtain ⟨_, hb, hlt, q, hq, cs, hc⟩ := hk'
  have hq9 : q = 3 := by simpa [Kd.int, Kd.scalar, Kd.E] using hq
  subst hq9
  exact hk k cs hc hb) fun _ _ => trivial
structure MkSt (w0 : World) (ab mb r : Nat) (m : List (ByteArray × Nat)) (Sv : Value) (st : List ByteArray) (hl : List ByteArray) (ol : List Int) (Hv Rv : Value) (W : World) : Prop where
 below : Below w0.heap.size w0 W
 map : H.MapAt H.encS W r (emb m)
 blk : W.heap[mb]? = some (.cells #[Hv, Rv] 80 (0, 0))
 hmb : w0.heap.size ≤ mb
 abk : W.heap[ab]? = some (.cells #[.slice none 0 0, .slice none 0 0] 80 (0, 0))
 hab : w0.heap.size ≤ ab ∧ ab ≠ mb
 rs : RS W w0.heap.size Sv st
 rh : RS W w0.heap.size Hv hl
 rr : RI W w0.heap.size Rv ol
theorem MkSt.lt {w0 : World} {ab mb r : Nat} {m : List (ByteArray × Nat)} {Sv Hv Rv : Value} {st hl : List ByteArray} {ol : List Int} {W : World} (h : MkSt w0 ab mb r m Sv st hl ol Hv Rv W) : mb < W.heap.size := (Array.getElem?_eq_some_iff.1 h.blk).1
theorem MkSt.after {w0 : World} {ab mb r : Nat} {m : List (ByteArray × Nat)} {Sv Hv Rv : Value} {st hl : List ByteArray} {ol : List Int} {W W' : World} (h : MkSt w0 ab mb r m Sv st hl ol Hv Rv W) (hb : Below W.heap.size W W') : MkSt w0 ab mb r m Sv st hl ol Hv Rv W' :=
 ⟨below_then h.below h.below.size hb, h.map.below hb h.map.lt, (hb.block mb h.lt).trans h.blk, h.hmb, (hb.block ab (Array.getElem?_eq_some_iff.1 h.abk).1).trans h.abk, h.hab, Kd.R_below h.rs hb, Kd.R_below h.rh hb, Kd.R_below h.rr hb⟩
theorem MkSt.cells {w0 : World} {ab mb r : Nat} {m : List (ByteArray × Nat)} {Sv Hv Rv : Value} {st hl : List ByteArray} {ol : List Int} {W : World} (h : MkSt w0 ab mb r m Sv st hl ol Hv Rv W) :
  W.cell? ⟨mb, 0, none⟩ = some Hv ∧ W.cell? ⟨mb, 1, none⟩ = some Rv ∧ W.frozen? ⟨mb, 0, none⟩ = false ∧ W.frozen? ⟨mb, 1, none⟩ = false := by
 refine ⟨?_, ?_, ?_, ?_⟩
 ·unfold World.cell?; rw [h.blk]; rfl
 ·unfold World.cell?; rw [h.blk]; rfl
 ·unfold World.frozen?; rw [h.blk]; rfl
 ·unfold World.frozen?; rw [h.blk]; rfl
theorem two_set {W : World} {mb : Nat} {a b : Value} (h : W.heap[mb]? = some (.cells #[a, b] 80 (0, 0))) (v : Value) : (W.setCell ⟨mb, 0, none⟩ v).heap[mb]? = some (.cells #[v, b] 80 (0, 0)) ∧ (W.setCell ⟨mb, 1, none⟩ v).heap[mb]? = some (.cells #[a, v] 80 (0, 0)) := by
 constructor
 ·simp only [World.setCell, Array.getElem?_modify, if_true, h]; rfl
 ·simp only [World.setCell, Array.getElem?_modify, if_true, h]; rfl
theorem map_ne {W : World} {r k : Nat} {mm : List (ByteArray × Value)} (h : H.MapAt H.encS W r mm) {cs : Array Value} {t : TypeId} (hk : W.heap[k]? = some (.cells cs t (0, 0))) : r ≠ k := by
 rintro rfl
 have := h.out
 rw [hk] at this
 cases this
theorem MkSt.put0 {w0 : World} {ab mb r : Nat} {m : List (ByteArray × Nat)} {Sv Hv Rv : Value} {st hl : List ByteArray} {ol : List Int} {W W1 : World} (h : MkSt w0 ab mb r m Sv st hl ol Hv Rv W) (hb : Below W.heap.size W W1) {v : Value} {hl' : List ByteArray} (hv : RS W1 w0.heap.size v hl') :
  MkSt w0 ab mb r m Sv st hl' ol v Rv (W1.setCell ⟨mb, 0, none⟩ v) := by
 have h1 := h.after hb
 have hne : ∀ (k : Nat) (cs : Array Value) (t : Nat), W1.heap[k]? = some (Obj.cells cs t (0, 0)) → t ≠ 80 → (W1.setCell ⟨mb, 0, none⟩ v).heap[k]? = W1.heap[k]? := fun k cs t hk ht =>
  Below.heap_setCell _ _ _ _ (by
   show k ≠ mb
   rintro rfl
   rw [h1.blk] at hk
   cases hk
   exact ht rfl)
 exact ⟨h1.below.setCell h1.hmb _, h1.map.of_heap (Below.heap_setCell _ _ _ _ (map_ne h1.map h1.blk)), (two_set h1.blk v).1, h1.hmb, (Below.heap_setCell _ _ _ _ h1.hab.2).trans h1.abk, h1.hab, h1.rs.move fun k cs hk _ => hne k cs 9 hk (by decide), hv.move fun k cs hk _ => hne k cs 9 hk (by decide), h1.rr.move fun k cs hk _ => hne k cs 3 hk (by decide)⟩
theorem MkSt.put1 {w0 : World} {ab mb r : Nat} {m : List (ByteArray × Nat)} {Sv Hv Rv : Value} {st hl : List ByteArray} {ol ol' : List Int} {W W1 : World} (h : MkSt w0 ab mb r m Sv st hl ol Hv Rv W) (hg : W.grownBy W1 Rv.ownBlock) {v : Value} (hv : RI W1 w0.heap.size v ol') :
  MkSt w0 ab mb r m Sv st hl ol' Hv v (W1.setCell ⟨mb, 1, none⟩ v) := by
 have hown : ∀ (k : Nat) (o : Obj), W.heap[k]? = some o → (∀ cs : Array Value, o ≠ Obj.cells cs 3 (0, 0)) → W1.heap[k]? = W.heap[k]? := fun k o hk hn =>
  hg.block k (Array.getElem?_eq_some_iff.1 hk).1 (fun e => by
   obtain ⟨cells, hc⟩ := R_own_type h.rr e.symm
   rw [hk] at hc
   exact hn _ (Option.some.inj hc))
 have hbase : ∀ k, Rv.ownBlock = some k → w0.heap.size ≤ k := fun k hk => (Kd.R_bound h.rr).1 k hk |>.2.1
 have hb1 : Below w0.heap.size w0 W1 := ⟨hg.os.trans h.below.os, hg.tape.trans h.below.tape, hg.output.trans h.below.output, Nat.le_trans h.below.size hg.size, fun k hk => (hg.block k (Nat.lt_of_lt_of_le hk h.below.size) (fun e => by have := hbase k e.symm; omega)).trans (h.below.block k hk)⟩
 have hblk : W1.heap[mb]? = some (.cells #[Hv, Rv] 80 (0, 0)) := (hown mb _ h.blk (fun cs e => by cases e)).trans h.blk
 have hmap : H.MapAt H.encS W1 r (emb m) := h.map.of_heap (hown r _ h.map.out (fun cs e => by cases e))
 have hne : ∀ (k : Nat) (cs : Array Value) (t : Nat), W1.heap[k]? = some (Obj.cells cs t (0, 0)) → t ≠ 80 → (W1.setCell ⟨mb, 1, none⟩ v).heap[k]? = W1.heap[k]? := fun k cs t hk ht =>
  Below.heap_setCell _ _ _ _ (by
   show k ≠ mb
   rintro rfl
   rw [hblk] at hk
   cases hk
   exact ht rfl)
 have hs' : ∀ {u : Value} {xs : List ByteArray}, RS W w0.heap.size u xs → RS (W1.setCell ⟨mb, 1, none⟩ v) w0.heap.size u xs := fun hx => by
  have h1 : RS W1 w0.heap.size _ _ := hx.move fun k cs hk _ => hown k _ hk (fun cs' e => by cases e)
  exact h1.move fun k cs hk _ => hne k cs 9 hk (by decide)
 exact ⟨hb1.setCell h.hmb _, hmap.of_heap (Below.heap_setCell _ _ _ _ (map_ne hmap hblk)), (two_set hblk v).2, h.hmb, (Below.heap_setCell _ _ _ _ h.hab.2).trans ((hown ab _ h.abk (fun cs e => by cases e)).trans h.abk), h.hab, hs' h.rs, hs' h.rh, hv.move fun k cs hk _ => hne k cs 3 hk (by decide)⟩
end
section
open Prot (heldOf roundL roundP addL addOne mkLevel mkLevels at_ firesB Good Fits)
attribute [local go_sem] slk sget sput uponK_value uponK_skip uponK_enter
attribute [local go_sem] PureRes_value PureRes_skip
set_option maxRecDepth 100000 in
set_option maxHeartbeats 4000000 in
theorem copy_add (RG : Code) (hRG : (Tryz.f55.body.bind (regOf 14)) = some RG) (nn : Nat) (Q : Exit → Act → World → Prop) (a : Act) (w3 : World) (mb cb base : Nat) (s : ByteArray) (Ap : Option Addr) (cp : Nat) (hl2 : List ByteArray) (Qv : Value) (cs : Array Value) (l0 : Slots)
  (hl0 : (l0.all fun p => decide (p.1 < 63)) = true) (hf : Fr 85 [] ((9, .pointer (some ⟨mb, 0, none⟩)) :: (14, .pointer (some ⟨cb, 0, none⟩)) :: l0) a)
  (hmb : w3.heap[mb]? = some (.cells #[.slice Ap hl2.length cp, Qv] 80 (0, 0))) (hcb : w3.heap[cb]? = some (.cells cs 25 (0, 0))) (h5 : cs[5]? = some (.string s)) (hq : Kd.C Kd.string w3 Ap hl2.length hl2) (hll : hl2.length ≤ 1000) (hbase : base ≤ w3.heap.size)
  (hP : ∀ c a a' w, a'.defers = a.defers → Q (.panic c) a w → Q (.panic c) a' w)
  (hQ : ∀ a' W1 v, Fr 85 [] ((9, .pointer (some ⟨mb, 0, none⟩)) :: (14, .pointer (some ⟨cb, 0, none⟩)) :: l0) a' → Below w3.heap.size w3 W1 → RS W1 base v (hl2 ++ [s]) → Q .normal a' (W1.setCell ⟨mb, 0, none⟩ v)) :
  RG.wpIn Fence.wide nn Tryz.prog Q a w3 := by
 simp only [Tryz.f55, Option.bind_some, regOf] at hRG
 simp only [reduceCtorEq, Nat.reduceEqDiff, if_false, if_true, ↓reduceIte] at hRG
 obtain rfl := (Option.some.inj hRG).symm
 clear hRG
 have hcbm : cb ≠ mb := fun e => by rw [e, hmb] at hcb; cases hcb
 obtain ⟨W0, hW0⟩ : ∃ W0 : World, W0 = { w3 with drawn := w3.drawn + 1 } := ⟨_, rfl⟩
 have hb0 : Below w3.heap.size w3 W0 := by rw [hW0]; exact (Below.refl _ _).drew
 have hW0h : W0.heap = w3.heap := by rw [hW0]
 have HQ00 := Aside0.mk (Kd.C_below hq hb0)
 have HCB0 : Aside0 (W0.heap[cb]? = some (.cells cs 25 (0, 0))) := ⟨by rw [hW0h]; exact hcb⟩
 have HMB0 : Aside0 (W0.heap[mb]? = some (.cells #[.slice Ap hl2.length cp, Qv] 80 (0, 0))) := ⟨by rw [hW0h]; exact hmb⟩
 have HCZ : Aside0 (cb < W0.heap.size) := ⟨(Array.getElem?_eq_some_iff.1 HCB0.out).1⟩
 have HMZ : Aside0 (mb < W0.heap.size) := ⟨(Array.getElem?_eq_some_iff.1 HMB0.out).1⟩
 have HBZ : Aside0 (base ≤ W0.heap.size) := ⟨by rw [hW0h]; exact hbase⟩
 have HB0 := Aside0.mk hb0
 have HW0 := Aside0.mk hW0
 have HWH := Aside0.mk hW0h
 have HH5 := Aside0.mk h5
 have HHQ := Aside0.mk hQ
 clear hmb hcb hq hbase hb0 hW0 hW0h h5 hQ
 refine wpIn_region_plan (by kernel_rfl) hf (.read 1 (.read 4 (.read 5 (.three 0 2 6 (.both 2 6 (.both 3 6 (.call 6 (.call 7 (.read 8 (.call 9 .nil)))) (.call 3 (.call 7 (.read 8 (.call 9 .nil))))) (.call 2 (.call 3 (.call 7 (.read 8 (.call 9 .nil)))))) (.both 0 6 (.both 3 6 (.call 6 (.call 7 (.read 8 (.call 9 .nil)))) (.call 3 (.call 7 (.read 8 (.call 9 .nil))))) (.call 0 (.call 3 (.call 7 (.read 8 (.call 9 .nil)))))) (.both 0 2 (.call 2 (.call 3 (.call 7 (.read 8 (.call 9 .nil))))) (.call 0 (.call 3 (.call 7 (.read 8 (.call 9 .nil)))))))))) (fun W => Aside0 (W.heap[cb]? = some (.cells cs 25 (0, 0)))) (by rw [← HW0.out]; exact HCB0) (by kernel_rfl) (by kernel_rfl) (by kernel_rfl) (by kernel_rfl) hP fun K Pn hK hPn => ?_
 rw [← HW0.out]
 have HJ : Aside0 (∀ (l' : Slots) (w' : World) (v : Value), (∀ k, k < 63 → sget l' k = sget ((9, .pointer (some ⟨mb, 0, none⟩)) :: (14, .pointer (some ⟨cb, 0, none⟩)) :: l0) k) → Below W0.heap.size W0 w' → RS w' base v (hl2 ++ [s]) → K l' (w'.setCell ⟨mb, 0, none⟩ v)) := ⟨fun l' w' v hs hb hv => hK _ _ fun a' hf' => by
  refine HHQ.out a' w' v (hf'.lower (b := 63) (by simpa using hl0) hs) ?_ hv
  exact HB0.out.trans (by rw [HWH.out] at hb; exact hb)⟩
 clear hK
 apply PlanK.read
 ·rfl
 ·rfl
 ·rfl
 ·rfl
 ·intro W hW
  go_simp
  first | exact rfl | exact ⟨rfl, rfl⟩
 apply PlanK.read
 ·rfl
 ·rfl
 ·rfl
 ·rfl
 ·intro W hW
  go_simp
  first | exact rfl | exact ⟨rfl, rfl⟩
 apply PlanK.read
 ·rfl
 ·rfl
 ·rfl
 ·rfl
 ·intro W hW
  have k5 : W.cell? ⟨cb, 5, none⟩ = some (.string s) := by unfold World.cell?; rw [hW.out]; exact HH5.out
  go_simp
  first | exact rfl | exact ⟨rfl, rfl⟩
 refine PlanK.three ?_ ?_ ?_
 ·skip
  refine PlanK.call rfl rfl rfl rfl ?_
  go_simp
  obtain ⟨W1, hW1⟩ : ∃ W, W = W0.alloc (.cells #[] 9) := ⟨_, rfl⟩
  rw [← hW1]
  have EW1 := Aside0.mk hW1
  clear hW1
  have BW1 : Aside0 (Below W0.heap.size W0 W1) := ⟨by rw [EW1.out]; exact ((Below.refl W0.heap.size W0)).alloc ((Below.refl W0.heap.size W0)).size _⟩
  have OW1 : Aside0 (W1.ownsRow base 9 1 (.slice (some ⟨W0.heap.size, 0, none⟩) 0 0) ([] : List ByteArray).length (([] : List ByteArray).map Value.string)) := ⟨by rw [EW1.out]; exact own_new W0 base (Nat.le_trans HBZ.out ((Below.refl W0.heap.size W0)).size)⟩
  have G0 : Aside0 (W0.heap.size ≤ W0.heap.size) := ⟨((Below.refl W0.heap.size W0)).size⟩
  refine ⟨⟨((BW1.out).block cb HCZ.out).trans HCB0.out⟩, ?_⟩
  refine PlanK.both ?_ ?_
  ·skip
   refine PlanK.call rfl rfl rfl rfl ?_
   have u0 : W1.cell? ⟨mb, 0, none⟩ = some (.slice Ap hl2.length cp) := by unfold World.cell?; rw [(BW1.out).block mb HMZ.out, HMB0.out]; rfl
   go_simp
   refine ⟨⟨((BW1.out).block cb HCZ.out).trans HCB0.out⟩, ?_⟩
   clear u0
   refine PlanK.both ?_ ?_
   ·skip
    refine PlanK.call rfl rfl rfl rfl ?_
    obtain ⟨v66, Wc, v70, Wd, hap, hap7, bc, bd, rd, Az, nz, cz, hz⟩ := two_appends' (W0 := W0) (Wb := W1) base (W0.heap.size) BW1.out HBZ.out OW1.out G0.out s Ap cp hl2 HQ00.out hll
    subst hz
    have BC := Aside0.mk bc
    have BD := Aside0.mk bd
    have RD := Aside0.mk rd
    clear bc bd rd
    simp only [execOp, resolve, invoke, builtin, Sem.run_bind, Sem.run_pure, Result.andThen_ok, List.map_toArray, List.map_cons, List.map_nil, slk, sget, sput, ↓reduceIte, Nat.reduceEqDiff, Option.getD_some, hap, uponK_value]
    clear hap
    refine ⟨⟨((BC.out).block cb HCZ.out).trans HCB0.out⟩, ?_⟩
    refine PlanK.call rfl rfl rfl rfl ?_
    go_simp
    obtain ⟨W2, hW2⟩ : ∃ W, W = Wc.alloc (.cells #[.string s] 9) := ⟨_, rfl⟩
    rw [← hW2]
    have EW2 := Aside0.mk hW2
    clear hW2
    have BW2 : Aside0 (Below W0.heap.size W0 W2) := ⟨by rw [EW2.out]; exact (BC.out).alloc (BC.out).size _⟩
    refine ⟨⟨((BW2.out).block cb HCZ.out).trans HCB0.out⟩, ?_⟩
    rw [← EW2.out] at hap7
    refine PlanK.call rfl rfl rfl rfl ?_
    simp only [execOp, resolve, invoke, builtin, Sem.run_bind, Sem.run_pure, Result.andThen_ok, List.map_toArray, List.map_cons, List.map_nil, slk, sget, sput, ↓reduceIte, Nat.reduceEqDiff, Option.getD_some, hap7, uponK_value]
    clear hap7
    refine ⟨⟨((BD.out).block cb HCZ.out).trans HCB0.out⟩, ?_⟩
    apply PlanK.read
    ·rfl
    ·rfl
    ·rfl
    ·rfl
    ·intro W hW
     go_simp
     first | exact rfl | exact ⟨rfl, rfl⟩
    refine PlanK.call rfl rfl rfl rfl ?_
    have hbm : Wd.heap[mb]? = some (.cells #[.slice Ap hl2.length cp, Qv] 80 (0, 0)) := (BD.out.block mb HMZ.out).trans HMB0.out
    have u0 : Wd.cell? ⟨mb, 0, none⟩ = some (.slice Ap hl2.length cp) := by unfold World.cell?; rw [hbm]; rfl
    have u2 : Wd.frozen? ⟨mb, 0, none⟩ = false := by unfold World.frozen?; rw [hbm]; rfl
    clear hbm
    go_simp
    refine ⟨⟨(Below.heap_setCell _ _ _ _ (by show cb ≠ mb; exact hcbm)).trans ((BD.out.block cb HCZ.out).trans HCB0.out)⟩, ?_⟩
    refine PlanK.nil (HJ.out _ _ _ (fun k hk => ?_) BD.out RD.out)
    simp only [sget, sput]
    rw [if_neg (by omega), if_neg (by omega), if_neg (by omega), if_neg (by omega), if_neg (by omega), if_neg (by omega), if_neg (by omega), if_neg (by omega), if_neg (by omega)]
   ·skip
    refine PlanK.call rfl rfl rfl rfl ?_
    go_simp
    obtain ⟨W2, hW2⟩ : ∃ W, W = W1.alloc (.cells #[.string s] 9) := ⟨_, rfl⟩
    rw [← hW2]
    have EW2 := Aside0.mk hW2
    clear hW2
    have BW2 : Aside0 (Below W0.heap.size W0 W2) := ⟨by rw [EW2.out]; exact (BW1.out).alloc (BW1.out).size _⟩
    refine ⟨⟨((BW2.out).block cb HCZ.out).trans HCB0.out⟩, ?_⟩
    have SW2 : Aside0 (W2.heap[W1.heap.size]? = some (.cells #[.string s] 9 (0, 0))) := ⟨by rw [EW2.out]; exact World.alloc_heap_new W1 _⟩
    have NW2 : Aside0 (W1.heap.size ≠ W0.heap.size) := ⟨fun e => by have h := (show W1.heap[W0.heap.size]? = some (.cells #[] 9 (0, 0)) from by rw [EW1.out]; exact World.alloc_heap_new _ _); rw [← e] at h; exact absurd (Array.getElem?_eq_some_iff.1 h).1 (Nat.lt_irrefl _)⟩
    have OW2 : Aside0 (W2.ownsRow base 9 1 (.slice (some ⟨W0.heap.size, 0, none⟩) 0 0) ([] : List ByteArray).length (([] : List ByteArray).map Value.string)) := ⟨by rw [EW2.out]; exact (OW1.out).alloc _⟩
    refine PlanK.call rfl rfl rfl rfl ?_
    obtain ⟨v66, Wc, v70, Wd, hap, hap7, bc, bd, rd, Az, nz, cz, hz⟩ := two_appends (W0 := W0) (Wb := W2) base (W0.heap.size) (W1.heap.size) BW2.out HBZ.out OW2.out G0.out s SW2.out NW2.out Ap cp hl2 HQ00.out hll
    subst hz
    have BC := Aside0.mk bc
    have BD := Aside0.mk bd
    have RD := Aside0.mk rd
    clear bc bd rd
    simp only [execOp, resolve, invoke, builtin, Sem.run_bind, Sem.run_pure, Result.andThen_ok, List.map_toArray, List.map_cons, List.map_nil, slk, sget, sput, ↓reduceIte, Nat.reduceEqDiff, Option.getD_some, hap, uponK_value]
    clear hap
    refine ⟨⟨((BC.out).block cb HCZ.out).trans HCB0.out⟩, ?_⟩
    refine PlanK.call rfl rfl rfl rfl ?_
    simp only [execOp, resolve, invoke, builtin, Sem.run_bind, Sem.run_pure, Result.andThen_ok, List.map_toArray, List.map_cons, List.map_nil, slk, sget, sput, ↓reduceIte, Nat.reduceEqDiff, Option.getD_some, hap7, uponK_value]
    clear hap7
    refine ⟨⟨((BD.out).block cb HCZ.out).trans HCB0.out⟩, ?_⟩
    apply PlanK.read
    ·rfl
    ·rfl
    ·rfl
    ·rfl
    ·intro W hW
     go_simp
     first | exact rfl | exact ⟨rfl, rfl⟩
    refine PlanK.call rfl rfl rfl rfl ?_
    have hbm : Wd.heap[mb]? = some (.cells #[.slice Ap hl2.length cp, Qv] 80 (0, 0)) := (BD.out.block mb HMZ.out).trans HMB0.out
    have u0 : Wd.cell? ⟨mb, 0, none⟩ = some (.slice Ap hl2.length cp) := by unfold World.cell?; rw [hbm]; rfl
    have u2 : Wd.frozen? ⟨mb, 0, none⟩ = false := by unfold World.frozen?; rw [hbm]; rfl
    clear hbm
    go_simp
    refine ⟨⟨(Below.heap_setCell _ _ _ _ (by show cb ≠ mb; exact hcbm)).trans ((BD.out.block cb HCZ.out).trans HCB0.out)⟩, ?_⟩
    refine PlanK.nil (HJ.out _ _ _ (fun k hk => ?_) BD.out RD.out)
    simp only [sget, sput]
    rw [if_neg (by omega), if_neg (by omega), if_neg (by omega), if_neg (by omega), if_neg (by omega), if_neg (by omega), if_neg (by omega), if_neg (by omega), if_neg (by omega)]
  ·skip
   refine PlanK.call rfl rfl rfl rfl ?_
   go_simp
   obtain ⟨W2, hW2⟩ : ∃ W, W = W1.alloc (.cells #[.string s] 9) := ⟨_, rfl⟩
   rw [← hW2]
   have EW2 := Aside0.mk hW2
   clear hW2
   have BW2 : Aside0 (Below W0.heap.size W0 W2) := ⟨by rw [EW2.out]; exact (BW1.out).alloc (BW1.out).size _⟩
   refine ⟨⟨((BW2.out).block cb HCZ.out).trans HCB0.out⟩, ?_⟩
   have SW2 : Aside0 (W2.heap[W1.heap.size]? = some (.cells #[.string s] 9 (0, 0))) := ⟨by rw [EW2.out]; exact World.alloc_heap_new W1 _⟩
   have NW2 : Aside0 (W1.heap.size ≠ W0.heap.size) := ⟨fun e => by have h := (show W1.heap[W0.heap.size]? = some (.cells #[] 9 (0, 0)) from by rw [EW1.out]; exact World.alloc_heap_new _ _); rw [← e] at h; exact absurd (Array.getElem?_eq_some_iff.1 h).1 (Nat.lt_irrefl _)⟩
   have OW2 : Aside0 (W2.ownsRow base 9 1 (.slice (some ⟨W0.heap.size, 0, none⟩) 0 0) ([] : List ByteArray).length (([] : List ByteArray).map Value.string)) := ⟨by rw [EW2.out]; exact (OW1.out).alloc _⟩
   refine PlanK.call rfl rfl rfl rfl ?_
   have u0 : W2.cell? ⟨mb, 0, none⟩ = some (.slice Ap hl2.length cp) := by unfold World.cell?; rw [(BW2.out).block mb HMZ.out, HMB0.out]; rfl
   go_simp
   refine ⟨⟨((BW2.out).block cb HCZ.out).trans HCB0.out⟩, ?_⟩
   clear u0
   refine PlanK.call rfl rfl rfl rfl ?_
   obtain ⟨v66, Wc, v70, Wd, hap, hap7, bc, bd, rd, Az, nz, cz, hz⟩ := two_appends (W0 := W0) (Wb := W2) base (W0.heap.size) (W1.heap.size) BW2.out HBZ.out OW2.out G0.out s SW2.out NW2.out Ap cp hl2 HQ00.out hll
   subst hz
   have BC := Aside0.mk bc
   have BD := Aside0.mk bd
   have RD := Aside0.mk rd
   clear bc bd rd
   simp only [execOp, resolve, invoke, builtin, Sem.run_bind, Sem.run_pure, Result.andThen_ok, List.map_toArray, List.map_cons, List.map_nil, slk, sget, sput, ↓reduceIte, Nat.reduceEqDiff, Option.getD_some, hap, uponK_value]
   clear hap
   refine ⟨⟨((BC.out).block cb HCZ.out).trans HCB0.out⟩, ?_⟩
   refine PlanK.call rfl rfl rfl rfl ?_
   simp only [execOp, resolve, invoke, builtin, Sem.run_bind, Sem.run_pure, Result.andThen_ok, List.map_toArray, List.map_cons, List.map_nil, slk, sget, sput, ↓reduceIte, Nat.reduceEqDiff, Option.getD_some, hap7, uponK_value]
   clear hap7
   refine ⟨⟨((BD.out).block cb HCZ.out).trans HCB0.out⟩, ?_⟩
   apply PlanK.read
   ·rfl
   ·rfl
   ·rfl
   ·rfl
   ·intro W hW
    go_simp
    first | exact rfl | exact ⟨rfl, rfl⟩
   refine PlanK.call rfl rfl rfl rfl ?_
   have hbm : Wd.heap[mb]? = some (.cells #[.slice Ap hl2.length cp, Qv] 80 (0, 0)) := (BD.out.block mb HMZ.out).trans HMB0.out
   have u0 : Wd.cell? ⟨mb, 0, none⟩ = some (.slice Ap hl2.length cp) := by unfold World.cell?; rw [hbm]; rfl
   have u2 : Wd.frozen? ⟨mb, 0, none⟩ = false := by unfold World.frozen?; rw [hbm]; rfl
   clear hbm
   go_simp
   refine ⟨⟨(Below.heap_setCell _ _ _ _ (by show cb ≠ mb; exact hcbm)).trans ((BD.out.block cb HCZ.out).trans HCB0.out)⟩, ?_⟩
   refine PlanK.nil (HJ.out _ _ _ (fun k hk => ?_) BD.out RD.out)
   simp only [sget, sput]
   rw [if_neg (by omega), if_neg (by omega), if_neg (by omega), if_neg (by omega), if_neg (by omega), if_neg (by omega), if_neg (by omega), if_neg (by omega), if_neg (by omega)]
 ·skip
  refine PlanK.call rfl rfl rfl rfl ?_
  have u0 : W0.cell? ⟨mb, 0, none⟩ = some (.slice Ap hl2.length cp) := by unfold World.cell?; rw [((Below.refl W0.heap.size W0)).block mb HMZ.out, HMB0.out]; rfl
  go_simp
  clear u0
  refine PlanK.both ?_ ?_
  ·skip
   refine PlanK.call rfl rfl rfl rfl ?_
   go_simp
   obtain ⟨W1, hW1⟩ : ∃ W, W = W0.alloc (.cells #[] 9) := ⟨_, rfl⟩
   rw [← hW1]
   have EW1 := Aside0.mk hW1
   clear hW1
   have BW1 : Aside0 (Below W0.heap.size W0 W1) := ⟨by rw [EW1.out]; exact ((Below.refl W0.heap.size W0)).alloc ((Below.refl W0.heap.size W0)).size _⟩
   have OW1 : Aside0 (W1.ownsRow base 9 1 (.slice (some ⟨W0.heap.size, 0, none⟩) 0 0) ([] : List ByteArray).length (([] : List ByteArray).map Value.string)) := ⟨by rw [EW1.out]; exact own_new W0 base (Nat.le_trans HBZ.out ((Below.refl W0.heap.size W0)).size)⟩
   have G0 : Aside0 (W0.heap.size ≤ W0.heap.size) := ⟨((Below.refl W0.heap.size W0)).size⟩
   refine ⟨⟨((BW1.out).block cb HCZ.out).trans HCB0.out⟩, ?_⟩
   refine PlanK.both ?_ ?_
   ·skip
    refine PlanK.call rfl rfl rfl rfl ?_
    obtain ⟨v66, Wc, v70, Wd, hap, hap7, bc, bd, rd, Az, nz, cz, hz⟩ := two_appends' (W0 := W0) (Wb := W1) base (W0.heap.size) BW1.out HBZ.out OW1.out G0.out s Ap cp hl2 HQ00.out hll
    subst hz
    have BC := Aside0.mk bc
    have BD := Aside0.mk bd
    have RD := Aside0.mk rd
    clear bc bd rd
    simp only [execOp, resolve, invoke, builtin, Sem.run_bind, Sem.run_pure, Result.andThen_ok, List.map_toArray, List.map_cons, List.map_nil, slk, sget, sput, ↓reduceIte, Nat.reduceEqDiff, Option.getD_some, hap, uponK_value]
    clear hap
    refine ⟨⟨((BC.out).block cb HCZ.out).trans HCB0.out⟩, ?_⟩
    refine PlanK.call rfl rfl rfl rfl ?_
    go_simp
    obtain ⟨W2, hW2⟩ : ∃ W, W = Wc.alloc (.cells #[.string s] 9) := ⟨_, rfl⟩
    rw [← hW2]
    have EW2 := Aside0.mk hW2
    clear hW2
    have BW2 : Aside0 (Below W0.heap.size W0 W2) := ⟨by rw [EW2.out]; exact (BC.out).alloc (BC.out).size _⟩
    refine ⟨⟨((BW2.out).block cb HCZ.out).trans HCB0.out⟩, ?_⟩
    rw [← EW2.out] at hap7
    refine PlanK.call rfl rfl rfl rfl ?_
    simp only [execOp, resolve, invoke, builtin, Sem.run_bind, Sem.run_pure, Result.andThen_ok, List.map_toArray, List.map_cons, List.map_nil, slk, sget, sput, ↓reduceIte, Nat.reduceEqDiff, Option.getD_some, hap7, uponK_value]
    clear hap7
    refine ⟨⟨((BD.out).block cb HCZ.out).trans HCB0.out⟩, ?_⟩
    apply PlanK.read
    ·rfl
    ·rfl
    ·rfl
    ·rfl
    ·intro W hW
     go_simp
     first | exact rfl | exact ⟨rfl, rfl⟩
    refine PlanK.call rfl rfl rfl rfl ?_
    have hbm : Wd.heap[mb]? = some (.cells #[.slice Ap hl2.length cp, Qv] 80 (0, 0)) := (BD.out.block mb HMZ.out).trans HMB0.out
    have u0 : Wd.cell? ⟨mb, 0, none⟩ = some (.slice Ap hl2.length cp) := by unfold World.cell?; rw [hbm]; rfl
    have u2 : Wd.frozen? ⟨mb, 0, none⟩ = false := by unfold World.frozen?; rw [hbm]; rfl
    clear hbm
    go_simp
    refine ⟨⟨(Below.heap_setCell _ _ _ _ (by show cb ≠ mb; exact hcbm)).trans ((BD.out.block cb HCZ.out).trans HCB0.out)⟩, ?_⟩
    refine PlanK.nil (HJ.out _ _ _ (fun k hk => ?_) BD.out RD.out)
    simp only [sget, sput]
    rw [if_neg (by omega), if_neg (by omega), if_neg (by omega), if_neg (by omega), if_neg (by omega), if_neg (by omega), if_neg (by omega), if_neg (by omega), if_neg (by omega)]
   ·skip
    refine PlanK.call rfl rfl rfl rfl ?_
    go_simp
    obtain ⟨W2, hW2⟩ : ∃ W, W = W1.alloc (.cells #[.string s] 9) := ⟨_, rfl⟩
    rw [← hW2]
    have EW2 := Aside0.mk hW2
    clear hW2
    have BW2 : Aside0 (Below W0.heap.size W0 W2) := ⟨by rw [EW2.out]; exact (BW1.out).alloc (BW1.out).size _⟩
    refine ⟨⟨((BW2.out).block cb HCZ.out).trans HCB0.out⟩, ?_⟩
    have SW2 : Aside0 (W2.heap[W1.heap.size]? = some (.cells #[.string s] 9 (0, 0))) := ⟨by rw [EW2.out]; exact World.alloc_heap_new W1 _⟩
    have NW2 : Aside0 (W1.heap.size ≠ W0.heap.size) := ⟨fun e => by have h := (show W1.heap[W0.heap.size]? = some (.cells #[] 9 (0, 0)) from by rw [EW1.out]; exact World.alloc_heap_new _ _); rw [← e] at h; exact absurd (Array.getElem?_eq_some_iff.1 h).1 (Nat.lt_irrefl _)⟩
    have OW2 : Aside0 (W2.ownsRow base 9 1 (.slice (some ⟨W0.heap.size, 0, none⟩) 0 0) ([] : List ByteArray).length (([] : List ByteArray).map Value.string)) := ⟨by rw [EW2.out]; exact (OW1.out).alloc _⟩
    refine PlanK.call rfl rfl rfl rfl ?_
    obtain ⟨v66, Wc, v70, Wd, hap, hap7, bc, bd, rd, Az, nz, cz, hz⟩ := two_appends (W0 := W0) (Wb := W2) base (W0.heap.size) (W1.heap.size) BW2.out HBZ.out OW2.out G0.out s SW2.out NW2.out Ap cp hl2 HQ00.out hll
    subst hz
    have BC := Aside0.mk bc
    have BD := Aside0.mk bd
    have RD := Aside0.mk rd
    clear bc bd rd
    simp only [execOp, resolve, invoke, builtin, Sem.run_bind, Sem.run_pure, Result.andThen_ok, List.map_toArray, List.map_cons, List.map_nil, slk, sget, sput, ↓reduceIte, Nat.reduceEqDiff, Option.getD_some, hap, uponK_value]
    clear hap
    refine ⟨⟨((BC.out).block cb HCZ.out).trans HCB0.out⟩, ?_⟩
    refine PlanK.call rfl rfl rfl rfl ?_
    simp only [execOp, resolve, invoke, builtin, Sem.run_bind, Sem.run_pure, Result.andThen_ok, List.map_toArray, List.map_cons, List.map_nil, slk, sget, sput, ↓reduceIte, Nat.reduceEqDiff, Option.getD_some, hap7, uponK_value]
    clear hap7
    refine ⟨⟨((BD.out).block cb HCZ.out).trans HCB0.out⟩, ?_⟩
    apply PlanK.read
    ·rfl
    ·rfl
    ·rfl
    ·rfl
    ·intro W hW
     go_simp
     first | exact rfl | exact ⟨rfl, rfl⟩
    refine PlanK.call rfl rfl rfl rfl ?_
    have hbm : Wd.heap[mb]? = some (.cells #[.slice Ap hl2.length cp, Qv] 80 (0, 0)) := (BD.out.block mb HMZ.out).trans HMB0.out
    have u0 : Wd.cell? ⟨mb, 0, none⟩ = some (.slice Ap hl2.length cp) := by unfold World.cell?; rw [hbm]; rfl
    have u2 : Wd.frozen? ⟨mb, 0, none⟩ = false := by unfold World.frozen?; rw [hbm]; rfl
    clear hbm
    go_simp
    refine ⟨⟨(Below.heap_setCell _ _ _ _ (by show cb ≠ mb; exact hcbm)).trans ((BD.out.block cb HCZ.out).trans HCB0.out)⟩, ?_⟩
    refine PlanK.nil (HJ.out _ _ _ (fun k hk => ?_) BD.out RD.out)
    simp only [sget, sput]
    rw [if_neg (by omega), if_neg (by omega), if_neg (by omega), if_neg (by omega), if_neg (by omega), if_neg (by omega), if_neg (by omega), if_neg (by omega), if_neg (by omega)]
  ·skip
   refine PlanK.call rfl rfl rfl rfl ?_
   go_simp
   obtain ⟨W1, hW1⟩ : ∃ W, W = W0.alloc (.cells #[.string s] 9) := ⟨_, rfl⟩
   rw [← hW1]
   have EW1 := Aside0.mk hW1
   clear hW1
   have BW1 : Aside0 (Below W0.heap.size W0 W1) := ⟨by rw [EW1.out]; exact ((Below.refl W0.heap.size W0)).alloc ((Below.refl W0.heap.size W0)).size _⟩
   refine ⟨⟨((BW1.out).block cb HCZ.out).trans HCB0.out⟩, ?_⟩
   have SW1 : Aside0 (W1.heap[W0.heap.size]? = some (.cells #[.string s] 9 (0, 0))) := ⟨by rw [EW1.out]; exact World.alloc_heap_new W0 _⟩
   refine PlanK.call rfl rfl rfl rfl ?_
   go_simp
   obtain ⟨W2, hW2⟩ : ∃ W, W = W1.alloc (.cells #[] 9) := ⟨_, rfl⟩
   rw [← hW2]
   have EW2 := Aside0.mk hW2
   clear hW2
   have BW2 : Aside0 (Below W0.heap.size W0 W2) := ⟨by rw [EW2.out]; exact (BW1.out).alloc (BW1.out).size _⟩
   have OW2 : Aside0 (W2.ownsRow base 9 1 (.slice (some ⟨W1.heap.size, 0, none⟩) 0 0) ([] : List ByteArray).length (([] : List ByteArray).map Value.string)) := ⟨by rw [EW2.out]; exact own_new W1 base (Nat.le_trans HBZ.out (BW1.out).size)⟩
   have G0 : Aside0 (W0.heap.size ≤ W1.heap.size) := ⟨(BW1.out).size⟩
   refine ⟨⟨((BW2.out).block cb HCZ.out).trans HCB0.out⟩, ?_⟩
   have SW2 : Aside0 (W2.heap[W0.heap.size]? = some (.cells #[.string s] 9 (0, 0))) := ⟨by rw [EW2.out]; exact (Below.heap_alloc _ _ _ (Array.getElem?_eq_some_iff.1 SW1.out).1).trans SW1.out⟩
   have NW2 : Aside0 (W0.heap.size ≠ W1.heap.size) := ⟨Nat.ne_of_lt (Array.getElem?_eq_some_iff.1 SW1.out).1⟩
   refine PlanK.call rfl rfl rfl rfl ?_
   obtain ⟨v66, Wc, v70, Wd, hap, hap7, bc, bd, rd, Az, nz, cz, hz⟩ := two_appends (W0 := W0) (Wb := W2) base (W1.heap.size) (W0.heap.size) BW2.out HBZ.out OW2.out G0.out s SW2.out NW2.out Ap cp hl2 HQ00.out hll
   subst hz
   have BC := Aside0.mk bc
   have BD := Aside0.mk bd
   have RD := Aside0.mk rd
   clear bc bd rd
   simp only [execOp, resolve, invoke, builtin, Sem.run_bind, Sem.run_pure, Result.andThen_ok, List.map_toArray, List.map_cons, List.map_nil, slk, sget, sput, ↓reduceIte, Nat.reduceEqDiff, Option.getD_some, hap, uponK_value]
   clear hap
   refine ⟨⟨((BC.out).block cb HCZ.out).trans HCB0.out⟩, ?_⟩
   refine PlanK.call rfl rfl rfl rfl ?_
   simp only [execOp, resolve, invoke, builtin, Sem.run_bind, Sem.run_pure, Result.andThen_ok, List.map_toArray, List.map_cons, List.map_nil, slk, sget, sput, ↓reduceIte, Nat.reduceEqDiff, Option.getD_some, hap7, uponK_value]
   clear hap7
   refine ⟨⟨((BD.out).block cb HCZ.out).trans HCB0.out⟩, ?_⟩
   apply PlanK.read
   ·rfl
   ·rfl
   ·rfl
   ·rfl
   ·intro W hW
    go_simp
    first | exact rfl | exact ⟨rfl, rfl⟩
   refine PlanK.call rfl rfl rfl rfl ?_
   have hbm : Wd.heap[mb]? = some (.cells #[.slice Ap hl2.length cp, Qv] 80 (0, 0)) := (BD.out.block mb HMZ.out).trans HMB0.out
   have u0 : Wd.cell? ⟨mb, 0, none⟩ = some (.slice Ap hl2.length cp) := by unfold World.cell?; rw [hbm]; rfl
   have u2 : Wd.frozen? ⟨mb, 0, none⟩ = false := by unfold World.frozen?; rw [hbm]; rfl
   clear hbm
   go_simp
   refine ⟨⟨(Below.heap_setCell _ _ _ _ (by show cb ≠ mb; exact hcbm)).trans ((BD.out.block cb HCZ.out).trans HCB0.out)⟩, ?_⟩
   refine PlanK.nil (HJ.out _ _ _ (fun k hk => ?_) BD.out RD.out)
   simp only [sget, sput]
   rw [if_neg (by omega), if_neg (by omega), if_neg (by omega), if_neg (by omega), if_neg (by omega), if_neg (by omega), if_neg (by omega), if_neg (by omega), if_neg (by omega)]
 ·skip
  refine PlanK.call rfl rfl rfl rfl ?_
  go_simp
  obtain ⟨W1, hW1⟩ : ∃ W, W = W0.alloc (.cells #[.string s] 9) := ⟨_, rfl⟩
  rw [← hW1]
  have EW1 := Aside0.mk hW1
  clear hW1
  have BW1 : Aside0 (Below W0.heap.size W0 W1) := ⟨by rw [EW1.out]; exact ((Below.refl W0.heap.size W0)).alloc ((Below.refl W0.heap.size W0)).size _⟩
  refine ⟨⟨((BW1.out).block cb HCZ.out).trans HCB0.out⟩, ?_⟩
  have SW1 : Aside0 (W1.heap[W0.heap.size]? = some (.cells #[.string s] 9 (0, 0))) := ⟨by rw [EW1.out]; exact World.alloc_heap_new W0 _⟩
  refine PlanK.both ?_ ?_
  ·skip
   refine PlanK.call rfl rfl rfl rfl ?_
   go_simp
   obtain ⟨W2, hW2⟩ : ∃ W, W = W1.alloc (.cells #[] 9) := ⟨_, rfl⟩
   rw [← hW2]
   have EW2 := Aside0.mk hW2
   clear hW2
   have BW2 : Aside0 (Below W0.heap.size W0 W2) := ⟨by rw [EW2.out]; exact (BW1.out).alloc (BW1.out).size _⟩
   have OW2 : Aside0 (W2.ownsRow base 9 1 (.slice (some ⟨W1.heap.size, 0, none⟩) 0 0) ([] : List ByteArray).length (([] : List ByteArray).map Value.string)) := ⟨by rw [EW2.out]; exact own_new W1 base (Nat.le_trans HBZ.out (BW1.out).size)⟩
   have G0 : Aside0 (W0.heap.size ≤ W1.heap.size) := ⟨(BW1.out).size⟩
   refine ⟨⟨((BW2.out).block cb HCZ.out).trans HCB0.out⟩, ?_⟩
   have SW2 : Aside0 (W2.heap[W0.heap.size]? = some (.cells #[.string s] 9 (0, 0))) := ⟨by rw [EW2.out]; exact (Below.heap_alloc _ _ _ (Array.getElem?_eq_some_iff.1 SW1.out).1).trans SW1.out⟩
   have NW2 : Aside0 (W0.heap.size ≠ W1.heap.size) := ⟨Nat.ne_of_lt (Array.getElem?_eq_some_iff.1 SW1.out).1⟩
   refine PlanK.call rfl rfl rfl rfl ?_
   have u0 : W2.cell? ⟨mb, 0, none⟩ = some (.slice Ap hl2.length cp) := by unfold World.cell?; rw [(BW2.out).block mb HMZ.out, HMB0.out]; rfl
   go_simp
   refine ⟨⟨((BW2.out).block cb HCZ.out).trans HCB0.out⟩, ?_⟩
   clear u0
   refine PlanK.call rfl rfl rfl rfl ?_
   obtain ⟨v66, Wc, v70, Wd, hap, hap7, bc, bd, rd, Az, nz, cz, hz⟩ := two_appends (W0 := W0) (Wb := W2) base (W1.heap.size) (W0.heap.size) BW2.out HBZ.out OW2.out G0.out s SW2.out NW2.out Ap cp hl2 HQ00.out hll
   subst hz
   have BC := Aside0.mk bc
   have BD := Aside0.mk bd
   have RD := Aside0.mk rd
   clear bc bd rd
   simp only [execOp, resolve, invoke, builtin, Sem.run_bind, Sem.run_pure, Result.andThen_ok, List.map_toArray, List.map_cons, List.map_nil, slk, sget, sput, ↓reduceIte, Nat.reduceEqDiff, Option.getD_some, hap, uponK_value]
   clear hap
   refine ⟨⟨((BC.out).block cb HCZ.out).trans HCB0.out⟩, ?_⟩
   refine PlanK.call rfl rfl rfl rfl ?_
   simp only [execOp, resolve, invoke, builtin, Sem.run_bind, Sem.run_pure, Result.andThen_ok, List.map_toArray, List.map_cons, List.map_nil, slk, sget, sput, ↓reduceIte, Nat.reduceEqDiff, Option.getD_some, hap7, uponK_value]
   clear hap7
   refine ⟨⟨((BD.out).block cb HCZ.out).trans HCB0.out⟩, ?_⟩
   apply PlanK.read
   ·rfl
   ·rfl
   ·rfl
   ·rfl
   ·intro W hW
    go_simp
    first | exact rfl | exact ⟨rfl, rfl⟩
   refine PlanK.call rfl rfl rfl rfl ?_
   have hbm : Wd.heap[mb]? = some (.cells #[.slice Ap hl2.length cp, Qv] 80 (0, 0)) := (BD.out.block mb HMZ.out).trans HMB0.out
   have u0 : Wd.cell? ⟨mb, 0, none⟩ = some (.slice Ap hl2.length cp) := by unfold World.cell?; rw [hbm]; rfl
   have u2 : Wd.frozen? ⟨mb, 0, none⟩ = false := by unfold World.frozen?; rw [hbm]; rfl
   clear hbm
   go_simp
   refine ⟨⟨(Below.heap_setCell _ _ _ _ (by show cb ≠ mb; exact hcbm)).trans ((BD.out.block cb HCZ.out).trans HCB0.out)⟩, ?_⟩
   refine PlanK.nil (HJ.out _ _ _ (fun k hk => ?_) BD.out RD.out)
   simp only [sget, sput]
   rw [if_neg (by omega), if_neg (by omega), if_neg (by omega), if_neg (by omega), if_neg (by omega), if_neg (by omega), if_neg (by omega), if_neg (by omega), if_neg (by omega)]
  ·skip
   refine PlanK.call rfl rfl rfl rfl ?_
   have u0 : W1.cell? ⟨mb, 0, none⟩ = some (.slice Ap hl2.length cp) := by unfold World.cell?; rw [(BW1.out).block mb HMZ.out, HMB0.out]; rfl
   go_simp
   refine ⟨⟨((BW1.out).block cb HCZ.out).trans HCB0.out⟩, ?_⟩
   clear u0
   refine PlanK.call rfl rfl rfl rfl ?_
   go_simp
   obtain ⟨W2, hW2⟩ : ∃ W, W = W1.alloc (.cells #[] 9) := ⟨_, rfl⟩
   rw [← hW2]
   have EW2 := Aside0.mk hW2
   clear hW2
   have BW2 : Aside0 (Below W0.heap.size W0 W2) := ⟨by rw [EW2.out]; exact (BW1.out).alloc (BW1.out).size _⟩
   have OW2 : Aside0 (W2.ownsRow base 9 1 (.slice (some ⟨W1.heap.size, 0, none⟩) 0 0) ([] : List ByteArray).length (([] : List ByteArray).map Value.string)) := ⟨by rw [EW2.out]; exact own_new W1 base (Nat.le_trans HBZ.out (BW1.out).size)⟩
   have G0 : Aside0 (W0.heap.size ≤ W1.heap.size) := ⟨(BW1.out).size⟩
   refine ⟨⟨((BW2.out).block cb HCZ.out).trans HCB0.out⟩, ?_⟩
   have SW2 : Aside0 (W2.heap[W0.heap.size]? = some (.cells #[.string s] 9 (0, 0))) := ⟨by rw [EW2.out]; exact (Below.heap_alloc _ _ _ (Array.getElem?_eq_some_iff.1 SW1.out).1).trans SW1.out⟩
   have NW2 : Aside0 (W0.heap.size ≠ W1.heap.size) := ⟨Nat.ne_of_lt (Array.getElem?_eq_some_iff.1 SW1.out).1⟩
   refine PlanK.call rfl rfl rfl rfl ?_
   obtain ⟨v66, Wc, v70, Wd, hap, hap7, bc, bd, rd, Az, nz, cz, hz⟩ := two_appends (W0 := W0) (Wb := W2) base (W1.heap.size) (W0.heap.size) BW2.out HBZ.out OW2.out G0.out s SW2.out NW2.out Ap cp hl2 HQ00.out hll
   subst hz
   have BC := Aside0.mk bc
   have BD := Aside0.mk bd
   have RD := Aside0.mk rd
   clear bc bd rd
   simp only [execOp, resolve, invoke, builtin, Sem.run_bind, Sem.run_pure, Result.andThen_ok, List.map_toArray, List.map_cons, List.map_nil, slk, sget, sput, ↓reduceIte, Nat.reduceEqDiff, Option.getD_some, hap, uponK_value]
   clear hap
   refine ⟨⟨((BC.out).block cb HCZ.out).trans HCB0.out⟩, ?_⟩
   refine PlanK.call rfl rfl rfl rfl ?_
   simp only [execOp, resolve, invoke, builtin, Sem.run_bind, Sem.run_pure, Result.andThen_ok, List.map_toArray, List.map_cons, List.map_nil, slk, sget, sput, ↓reduceIte, Nat.reduceEqDiff, Option.getD_some, hap7, uponK_value]
   clear hap7
   refine ⟨⟨((BD.out).block cb HCZ.out).trans HCB0.out⟩, ?_⟩
   apply PlanK.read
   ·rfl
   ·rfl
   ·rfl
   ·rfl
   ·intro W hW
    go_simp
    first | exact rfl | exact ⟨rfl, rfl⟩
   refine PlanK.call rfl rfl rfl rfl ?_
   have hbm : Wd.heap[mb]? = some (.cells #[.slice Ap hl2.length cp, Qv] 80 (0, 0)) := (BD.out.block mb HMZ.out).trans HMB0.out
   have u0 : Wd.cell? ⟨mb, 0, none⟩ = some (.slice Ap hl2.length cp) := by unfold World.cell?; rw [hbm]; rfl
   have u2 : Wd.frozen? ⟨mb, 0, none⟩ = false := by unfold World.frozen?; rw [hbm]; rfl
   clear hbm
   go_simp
   refine ⟨⟨(Below.heap_setCell _ _ _ _ (by show cb ≠ mb; exact hcbm)).trans ((BD.out.block cb HCZ.out).trans HCB0.out)⟩, ?_⟩
   refine PlanK.nil (HJ.out _ _ _ (fun k hk => ?_) BD.out RD.out)
   simp only [sget, sput]
   rw [if_neg (by omega), if_neg (by omega), if_neg (by omega), if_neg (by omega), if_neg (by omega), if_neg (by omega), if_neg (by omega), if_neg (by omega), if_neg (by omega)]
end
end Go.Proofs.YtlhkeohcickiaaaGreatDoor.E

