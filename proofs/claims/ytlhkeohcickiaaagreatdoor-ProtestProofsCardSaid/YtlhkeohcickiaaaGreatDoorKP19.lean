/- Part 19 of 36 of the proof of ProtestProofs: lemmas, without conditions. -/
import Derived.Orders
import Derived.WalkKit
import Derived.OrdersIn
import Derived.Test.YtlhkeohcickiaaaGreatDoorKP17
import Derived.Test.YtlhkeohcickiaaaGreatDoorKP18
import Derived.Test.YtlhkeohcickiaaaGreatDoorKP16
import Derived.Test.YtlhkeohcickiaaaGreatDoorProg
import Derived.WideLaws
import Derived.KernelRfl
import Derived.Below
import Derived.Deep.Draws
import Derived.Test.YtlhkeohcickiaaaGreatDoorKP14
import Derived.WalkLawsBesides
import Derived.Shelf.Abstract
set_option linter.all false
namespace Go.Proofs.YtlhkeohcickiaaaGreatDoor.H
open Go
section
section
variable {P : Program} {ops : Array Oper} {Q : Exit → Act → World → Prop} {md : Region.Mode} {S : World → Prop}
def SteadyRes (P : Program) (S : World → Prop) (v : Value) : Result Next → Prop
 | .ok (.value u) w' => u = v ∧ S w'
 | .ok .skip w' => v = undef ∧ S w'
 | .ok (.enter f args) w' => Calls P f args w' fun e w'' => e = .returned v ∧ S w''
 | _ => False
def SteadyRun (P : Program) (S : World → Prop) (m : Sem Next) (v : Value) : Prop := ∀ w, S w → SteadyRes P S v (m.run P w)
def Steady (P : Program) (ops : Array Oper) (S : World → Prop) (o : Oper) (v : Value) (a : Act) : Prop :=
 (Region.wanted o (yielded ops a.tmps) = true ∧ SteadyRun P S (execOp a.eval o) v) ∨ (Region.wanted o (yielded ops a.tmps) = false ∧ v = undef)
theorem Steady.of_same {o : Oper} {v : Value} {a a' : Act} (h : Steady P ops S o v a) (he : execOp a'.eval o = execOp a.eval o)
  (hw : Region.wanted o (yielded ops a'.tmps) = Region.wanted o (yielded ops a.tmps)) : Steady P ops S o v a' := by
 unfold Steady at *
 rw [he, hw]
 exact h
theorem Steady.wpOp {i : Nat} {o : Oper} {v : Value} {a : Act} (hi : ops[i]? = some o) (hy : Steady P ops S o v a)
  {K : Act → World → Prop} {w : World} (hS : S w) (h : ∀ w', S w' → K (a.put o.dst v) w') : Go.wpOp P ops Q i K a w := by
 unfold Go.wpOp
 simp only [hi]
 rcases hy with ⟨hw, hv⟩ | ⟨hw, rfl⟩
 ·simp only [hw, if_true, Oper.wp]
  left
  have h1 := hv w hS
  unfold SteadyRes at h1
  split at h1
  ·rename_i u w' hr
   obtain ⟨rfl, h2⟩ := h1
   rw [hr]
   exact h w' h2
  ·rename_i w' hr
   obtain ⟨rfl, h2⟩ := h1
   rw [hr]
   exact h w' h2
  ·rename_i f args w' hr
   rw [hr]
   exact h1.mono fun e w'' ⟨he, h2⟩ => by subst he; exact h w'' h2
  ·exact h1.elim
 ·simp only [hw, Bool.false_eq_true, if_false]
  exact h w hS
def AllSt (P : Program) (md : Region.Mode) (ops : Array Oper) (Q : Exit → Act → World → Prop) (S : World → Prop) : Nat → Array Bool → Act → Prop
 | 0, listed, a => Region.ready md ops listed = [] ∧ ∀ w, S w → Q .normal a w
 | fuel + 1, listed, a => (Region.ready md ops listed = [] → ∀ w, S w → Q .normal a w) ∧
   ∀ i ∈ Region.ready md ops listed, ∃ oi v, ops[i]? = some oi ∧ Steady P ops S oi v a ∧ AllSt P md ops Q S fuel (listed.setIfInBounds i true) (a.put oi.dst v)
theorem AllSt.sound : ∀ (fuel : Nat) (listed : Array Bool) (a : Act), AllSt P md ops Q S fuel listed a → ∀ w, S w → wpAny P md ops Q fuel listed a w
 | 0, _, _, h, w, hS => ⟨h.1, h.2 w hS⟩
 | fuel + 1, listed, a, h, w, hS => ⟨fun h0 => h.1 h0 w hS, fun i hi => by
   obtain ⟨oi, v, ho, hst, hr⟩ := h.2 i hi
   exact hst.wpOp ho hS fun w' hw' => AllSt.sound fuel _ _ hr w' hw'⟩
theorem AllSt.take {i : Nat} {oi : Oper} {v : Value} (hi : ops[i]? = some oi) (hsel : ∀ (j : Nat) (o : Oper) cs b, ops[j]? = some o → o.op ≠ .select cs b) :
  ∀ (fuel : Nat) (listed : Array Bool) (a : Act),
   (∀ j oj, ops[j]? = some oj → j ≠ i → listed.getD j true = false → (∀ e ∈ oj.after, Region.binds md e = true → e.on ≠ i) → oi.apart ops oj = true) →
   i ∈ Region.ready md ops listed → Steady P ops S oi v a →
   AllSt P md ops Q S fuel (listed.setIfInBounds i true) (a.put oi.dst v) → AllSt P md ops Q S (fuel + 1) listed a := by
 intro fuel
 induction fuel with
 | zero =>
  intro listed a _ hr hy H
  refine ⟨fun h => (by rw [h] at hr; cases hr), fun j hj => ?_⟩
  by_cases hji : j = i
  ·subst hji; exact ⟨oi, v, hi, hy, H⟩
  ·have := ready_mono hj hji
   rw [H.1] at this
   cases this
 | succ fuel ih =>
  intro listed a hfree hr hy H
  refine ⟨fun h => (by rw [h] at hr; cases hr), fun j hj => ?_⟩
  by_cases hji : j = i
  ·subst hji; exact ⟨oi, v, hi, hy, H⟩
  ·obtain ⟨oj, u, hoj, hstj, hrest⟩ := H.2 j (ready_mono hj hji)
   obtain ⟨hjun, oj', hoj', hall⟩ := mem_ready.1 hj
   rw [hoj] at hoj'
   injection hoj' with hoj'
   subst hoj'
   have hnot : ∀ e ∈ oj.after, Region.binds md e = true → e.on ≠ i := fun e he hb heq => by
    have h1 := hall e he hb
    have h0 := (mem_ready.1 hr).1
    rw [heq] at h1
    rcases Nat.lt_or_ge i listed.size with h' | h'
    ·simp [h'] at h0 h1; rw [h0] at h1; cases h1
    ·simp [Array.getElem?_eq_none h'] at h1
   have hap := hfree j oj hoj hji hjun hnot
   obtain ⟨ap1, ap2, ap3⟩ := Oper.apart_spec hap
   have hstj' : Steady P ops S oj u a := hstj.of_same (execOp_put (ops := ops) oj (fun cs b => hsel j oj cs b hoj) a oi.dst v ap1).symm (wanted_put oj a oi.dst v ap1).symm
   have hsti' : Steady P ops S oi v (a.put oj.dst u) := hy.of_same (execOp_put (ops := ops) oi (fun cs b => hsel i oi cs b hi) a oj.dst u ap3) (wanted_put oi a oj.dst u ap3)
   have hfree' : ∀ k ok, ops[k]? = some ok → k ≠ i → (listed.setIfInBounds j true).getD k true = false →
     (∀ e ∈ ok.after, Region.binds md e = true → e.on ≠ i) → oi.apart ops ok = true := fun k ok hk hki hun hno => by
    refine hfree k ok hk hki ?_ hno
    by_cases hjk : j = k
    ·subst hjk; exact hjun
    ·rw [getD_set_ne true hjk] at hun; exact hun
   refine ⟨oj, u, hoj, hstj', ih (listed.setIfInBounds j true) (a.put oj.dst u) hfree' (ready_mono hr (Ne.symm hji)) hsti' ?_⟩
   rw [Array.setIfInBounds_comm _ _ hji]
   have hc := Act.put_comm a (x := oi.dst) (y := oj.dst) v u ap2
   rw [← hc]
   exact hrest
def textOk (md : Region.Mode) (ops : Array Oper) : Bool :=
 Region.noSelect ops && (List.range ops.size).all fun i => Region.free md ops ((Array.range ops.size).map fun j => decide (j < i)) i && (Region.ready md ops ((Array.range ops.size).map fun j => decide (j < i))).contains i
def listedTo (n i : Nat) : Array Bool := (Array.range n).map fun j => decide (j < i)
theorem listedTo_succ (n i : Nat) : (listedTo n i).setIfInBounds i true = listedTo n (i + 1) := by
 apply Array.ext_getElem?
 intro j
 simp only [listedTo, Array.getElem?_setIfInBounds, Array.getElem?_map, Array.getElem?_range, Array.size_map, Array.size_range]
 by_cases hj : j < n
 ·by_cases e : i = j
  ·subst e; simp [hj]
  ·simp [hj, e]; omega
 ·by_cases e : i = j
  ·subst e; simp [hj]
  ·simp [hj, e]
def Chain (P : Program) (ops : Array Oper) (S : World → Prop) : List Oper → Act → (Act → Prop) → Prop
 | [], a, K => K a
 | o :: l, a, K => ∃ v, Steady P ops S o v a ∧ Chain P ops S l (a.put o.dst v) K
theorem AllSt.of_chain (ht : textOk md ops = true) : ∀ (l : List Oper) (i : Nat) (a : Act), (∀ j, l[j]? = ops[i + j]?) → i + l.length = ops.size →
  Chain P ops S l a (fun a' => ∀ w, S w → Q .normal a' w) → AllSt P md ops Q S l.length (listedTo ops.size i) a := by
 unfold textOk at ht
 rw [Bool.and_eq_true, List.all_eq_true] at ht
 obtain ⟨hs, hall⟩ := ht
 intro l
 induction l with
 | nil =>
  intro i a _ hlen h
  refine ⟨?_, h⟩
  rw [List.eq_nil_iff_forall_not_mem]
  intro j hj
  obtain ⟨h0, o, ho, _⟩ := mem_ready.1 hj
  have hlt := (Array.getElem?_eq_some_iff.1 ho).1
  simp at hlen
  simp [listedTo, hlt] at h0
  omega
 | cons o l ih =>
  intro i a hl hlen h
  obtain ⟨v, hst, hrest⟩ := h
  have ho : ops[i]? = some o := by simpa using (hl 0).symm
  have hlt : i < ops.size := (Array.getElem?_eq_some_iff.1 ho).1
  have hc := hall i (List.mem_range.2 hlt)
  rw [Bool.and_eq_true] at hc
  refine AllSt.take ho (Region.noSelect_spec hs) l.length (listedTo ops.size i) a (Region.free_spec ho hc.1) (by unfold listedTo; simpa using hc.2) hst ?_
  rw [listedTo_succ]
  exact ih (i + 1) _ (fun j => by have := hl (j + 1); simpa [Nat.add_assoc, Nat.add_comm 1 j] using this) (by simp at hlen; omega) hrest
theorem Chain.val {o : Oper} {l : List Oper} {a : Act} {K : Act → Prop} (v : Value) (hw : Region.wanted o (yielded ops a.tmps) = true) (hr : ∀ w, S w → SteadyRes P S v ((execOp a.eval o).run P w))
  (h : Chain P ops S l (a.put o.dst v) K) : Chain P ops S (o :: l) a K := ⟨v, .inl ⟨hw, hr⟩, h⟩
theorem Chain.skip {o : Oper} {l : List Oper} {a : Act} {K : Act → Prop} (hw : Region.wanted o (yielded ops a.tmps) = false) (h : Chain P ops S l (a.put o.dst undef) K) : Chain P ops S (o :: l) a K := ⟨undef, .inr ⟨hw, rfl⟩, h⟩
theorem Chain.nil {a : Act} {K : Act → Prop} (h : K a) : Chain P ops S [] a K := h
theorem SteadyRes_value {v u : Value} {w' : World} : SteadyRes P S v (.ok (.value u) w') = (u = v ∧ S w') := rfl
theorem SteadyRes_skip {v : Value} {w' : World} : SteadyRes P S v (.ok .skip w') = (v = undef ∧ S w') := rfl
theorem SteadyRes_enter {v : Value} {f : FuncId} {args : Array Value} {w' : World} : SteadyRes P S v (.ok (.enter f args) w') = Calls P f args w' fun e w'' => e = .returned v ∧ S w'' := rfl
theorem wp_region_steady {id : Nat} {l : List Oper} {a : Act} {w : World} (hm : P.follows .mixedOrders = true) (S : World → Prop) (hS : S { w with drawn := w.drawn + 1 }) (ht : textOk .any l.toArray = true)
  (h : Chain P l.toArray S l a (fun a' => ∀ w, S w → Q .normal a' w)) : (Code.region id l.toArray true).wp P Q a w := by
 refine wp_region_any hm ?_
 have h0 : Array.replicate l.toArray.size false = listedTo l.toArray.size 0 := by
  apply Array.ext_getElem?
  intro j
  simp only [listedTo, Array.getElem?_replicate, Array.getElem?_map, Array.getElem?_range]
  split <;> simp
 rw [h0]
 have := AllSt.of_chain (P := P) (ops := l.toArray) (md := .any) (Q := Q) (S := S) ht l 0 a (fun j => by simp) (by simp) h
 exact AllSt.sound _ _ _ (by simpa using this) _ hS
end
end
section
section
variable {F : Fence} {n : Nat} {P : Program} {ops : Array Oper} {Q : Exit → Act → World → Prop} {md : Region.Mode} {S : Nat → World → Prop} {cs : List Nat}
def StRes (S : Nat → World → Prop) (t : Nat) (v : Value) : Result Next → Prop
 | .ok (.value u) w' => u = v ∧ S t w'
 | .ok .skip w' => v = undef ∧ S t w'
 | _ => False
def Closed (md : Region.Mode) (ops : Array Oper) (cs : List Nat) (listed : Array Bool) : Prop :=
 ∀ c ∈ cs, listed.getD c false = true → ∀ o, ops[c]? = some o → ∀ e ∈ o.after, Region.binds md e = true → listed.getD e.on false = true
def stg (cs : List Nat) (listed : Array Bool) : Nat := (cs.filter fun c => listed.getD c false).length
def edge (md : Region.Mode) (ops : Array Oper) (c i : Nat) : Bool := match ops[c]? with | some o => o.after.any fun e => Region.binds md e && e.on == i | none => false
def lastOf (md : Region.Mode) (ops : Array Oper) (cs : List Nat) (i : Nat) : Nat := cs.findIdx fun c => edge md ops c i
def chainOk (md : Region.Mode) (ops : Array Oper) (cs : List Nat) : Bool :=
 decide cs.Nodup && (cs.all fun c => decide (c < ops.size)) && (List.range cs.length).all fun k => decide (cs.length ≤ k + 1) || edge md ops (cs.getD (k + 1) 0) (cs.getD k 0)
def noDefer (ops : Array Oper) : Bool := ops.all fun o => match o.op with | .defer _ => false | _ => true
def StepX (md : Region.Mode) (P : Program) (ops : Array Oper) (S : Nat → World → Prop) (cs : List Nat) (i : Nat) (o : Oper) (v : Value) (a : Act) : Prop :=
  Region.wanted o (yielded ops a.tmps) = true ∧
    ((∃ k, cs[k]? = some i ∧ ∀ w, S k w → StRes S (k + 1) v ((execOp a.eval o).run P w)) ∨
     (i ∉ cs ∧ ∀ t, t ≤ lastOf md ops cs i → ∀ w, S t w → StRes S t v ((execOp a.eval o).run P w)))
theorem StepX.of_same {i : Nat} {o : Oper} {v : Value} {a a' : Act} (h : StepX md P ops S cs i o v a) (he : execOp a'.eval o = execOp a.eval o)
  (hw : Region.wanted o (yielded ops a'.tmps) = Region.wanted o (yielded ops a.tmps)) : StepX md P ops S cs i o v a' := by
 unfold StepX at *
 rw [he, hw]
 exact h
theorem edge_of {c i : Nat} (h : edge md ops c i = true) : ∃ o, ops[c]? = some o ∧ ∃ e ∈ o.after, Region.binds md e = true ∧ e.on = i := by
 unfold edge at h
 split at h
 ·rename_i o ho
  rw [Array.any_eq_true'] at h
  obtain ⟨e, he, hb⟩ := h
  simp only [Bool.and_eq_true, beq_iff_eq] at hb
  exact ⟨o, ho, e, he, hb.1, hb.2⟩
 ·cases h
theorem chain_edge (hc : chainOk md ops cs = true) {k : Nat} (h : k + 1 < cs.length) : edge md ops cs[k + 1] cs[k] = true := by
 unfold chainOk at hc
 rw [Bool.and_eq_true, List.all_eq_true] at hc
 have := hc.2 k (List.mem_range.2 (by omega))
 have h2 : cs.length ≤ k + 1 ∨ edge md ops cs[k + 1] cs[k] = true := by simpa [List.getD_eq_getElem?_getD, List.getElem?_eq_getElem h, List.getElem?_eq_getElem (Nat.lt_of_succ_lt h), h] using this
 exact h2.resolve_left (by omega)
theorem chain_nodup (hc : chainOk md ops cs = true) : cs.Nodup := by
 unfold chainOk at hc
 simp only [Bool.and_eq_true, decide_eq_true_eq] at hc
 exact hc.1.1
theorem closed_up (hc : chainOk md ops cs = true) {listed : Array Bool} (h : Closed md ops cs listed) {k : Nat} (hk : k < cs.length) (hun : listed.getD cs[k] false = false) :
  ∀ d, (hd : k + d < cs.length) → listed.getD cs[k + d] false = false := by
 intro d
 induction d with
 | zero => intro _; exact hun
 | succ d ih =>
  intro hd
  have h1 := ih (by omega)
  obtain ⟨o, ho, e, he, hb, hon⟩ := edge_of (chain_edge hc (k := k + d) (by omega))
  cases hl : listed.getD cs[k + (d + 1)] false with
  | false => rfl
  | true =>
   have := h _ (List.getElem_mem hd) hl o (by simpa [Nat.add_assoc] using ho) e he hb
   rw [hon, h1] at this
   cases this
theorem closed_down (hc : chainOk md ops cs = true) {listed : Array Bool} (h : Closed md ops cs listed) :
  ∀ (k : Nat) (hk : k < cs.length), (∀ o, ops[cs[k]]? = some o → ∀ e ∈ o.after, Region.binds md e = true → listed.getD e.on false = true) → ∀ j, (hj : j < k) → listed.getD (cs[j]'(by omega)) false = true := by
 intro k
 induction k with
 | zero => intro _ _ j hj; omega
 | succ k ih =>
  intro hk hall j hj
  obtain ⟨o, ho, e, he, hb, hon⟩ := edge_of (chain_edge hc (k := k) hk)
  have h1 := hall o ho e he hb
  rw [hon] at h1
  rcases Nat.lt_or_ge j k with hlt | hge
  ·exact ih (by omega) (fun o' ho' e' he' hb' => h _ (List.getElem_mem (by omega)) h1 o' ho' e' he' hb') j hlt
  ·have : j = k := by omega
   subst this
   exact h1
theorem stg_of {listed : Array Bool} {k : Nat} (hk : k ≤ cs.length) (h : ∀ j, (hj : j < cs.length) → listed.getD cs[j] false = decide (j < k)) : stg cs listed = k := by
 unfold stg
 have e : cs.filter (fun c => listed.getD c false) = cs.take k := by
  conv => lhs; rw [← List.take_append_drop k cs]
  rw [List.filter_append]
  have h1 : (cs.take k).filter (fun c => listed.getD c false) = cs.take k := by
   rw [List.filter_eq_self]
   intro c hc
   obtain ⟨j, hj, rfl⟩ := List.getElem_of_mem hc
   rw [List.length_take] at hj
   rw [List.getElem_take, h j (by omega)]
   exact decide_eq_true (by omega)
  have h2 : (cs.drop k).filter (fun c => listed.getD c false) = [] := by
   rw [List.filter_eq_nil_iff]
   intro c hc
   obtain ⟨j, hj, rfl⟩ := List.getElem_of_mem hc
   rw [List.length_drop] at hj
   rw [List.getElem_drop, h (k + j) (by omega)]
   simp
  rw [h1, h2, List.append_nil]
 rw [e, List.length_take]
 omega
theorem getD_set_other {listed : Array Bool} {i j : Nat} (h : i ≠ j) (b d : Bool) : (listed.setIfInBounds i b).getD j d = listed.getD j d := by
 simp [Array.getD_eq_getD_getElem?, Array.getElem?_setIfInBounds_ne h]
theorem getD_set_self {listed : Array Bool} {i : Nat} (h : listed.getD i true = false) (d : Bool) : (listed.setIfInBounds i true).getD i d = true := by
 have hlt : i < listed.size := by
  rcases Nat.lt_or_ge i listed.size with h' | h'
  ·exact h'
  ·simp [Array.getD_eq_getD_getElem?, Array.getElem?_eq_none h'] at h
 simp [Array.getD_eq_getD_getElem?, hlt]
theorem getD_unlisted {listed : Array Bool} {i : Nat} (h : listed.getD i true = false) : listed.getD i false = false := by
 rcases Nat.lt_or_ge i listed.size with h' | h'
 ·simp [Array.getD_eq_getD_getElem?, h'] at h ⊢; exact h
 ·simp [Array.getD_eq_getD_getElem?, Array.getElem?_eq_none h'] at h
theorem Closed.set {listed : Array Bool} {i : Nat} (h : Closed md ops cs listed) (hr : i ∈ Region.ready md ops listed) : Closed md ops cs (listed.setIfInBounds i true) := by
 intro c hc hl o ho e he hb
 obtain ⟨hun, o', ho', hall⟩ := mem_ready.1 hr
 have mono : ∀ j, listed.getD j false = true → (listed.setIfInBounds i true).getD j false = true := fun j hj => by
  by_cases e : i = j
  ·subst e; exact getD_set_self hun false
  ·rw [getD_set_other e]; exact hj
 by_cases e1 : i = c
 ·subst e1
  rw [ho] at ho'
  cases ho'
  exact mono _ (hall e he hb)
 ·rw [getD_set_other e1] at hl
  exact mono _ (h c hc hl o ho e he hb)
theorem StepX.wpOp (hfn : ∀ f, F.fn f) (hc : chainOk md ops cs = true) (hnd : noDefer ops = true) {listed : Array Bool} {i : Nat} {o : Oper} {v : Value} {a : Act} (hi : ops[i]? = some o) (hr : i ∈ Region.ready md ops listed) (hy : StepX md P ops S cs i o v a)
  {K : Act → World → Prop} {w : World} (hcl : Closed md ops cs listed) (hS : S (stg cs listed) w) (h : ∀ w', Closed md ops cs (listed.setIfInBounds i true) → S (stg cs (listed.setIfInBounds i true)) w' → K (a.put o.dst v) w') : wpOpIn F n P ops Q i K a w := by
 unfold wpOpIn
 simp only [hi]
 obtain ⟨hw, hv⟩ := hy
 simp only [hw, if_true, Oper.wpIn]
 refine ⟨fun f _ => hfn f, ?_⟩
 have hdef : ∀ c, o.op ≠ .defer c := by
  intro c e
  unfold noDefer at hnd
  rw [Array.all_eq_true'] at hnd
  have := hnd o (Array.mem_of_getElem? hi)
  rw [e] at this
  cases this
 rw [Oper.semAt_eq _ _ _ hdef]
 obtain ⟨hun, o', ho', hall⟩ := mem_ready.1 hr
 rw [hi] at ho'
 cases ho'
 have key : StRes S (stg cs (listed.setIfInBounds i true)) v ((execOp a.eval o).run P w) := by
  rcases hv with ⟨k, hk, hv⟩ | ⟨hni, hv⟩
  ·have hkl : k < cs.length := (List.getElem?_eq_some_iff.1 hk).1
   have hki : cs[k] = i := (List.getElem?_eq_some_iff.1 hk).2
   have e0 : listed.getD cs[k] false = false := by rw [hki]; exact getD_unlisted hun
   have up := closed_up hc hcl hkl e0
   have down := closed_down hc hcl k hkl (fun o2 ho2 e he hb => by rw [hki, hi] at ho2; cases ho2; exact hall e he hb)
   have s1 : stg cs listed = k := stg_of (Nat.le_of_lt hkl) fun j hj => by
    rcases Nat.lt_or_ge j k with hlt | hge
    ·rw [down j hlt]; exact (decide_eq_true hlt).symm
    ·have := up (j - k) (by omega)
     simp only [show k + (j - k) = j by omega] at this
     rw [this]; exact (decide_eq_false (by omega)).symm
   have s2 : stg cs (listed.setIfInBounds i true) = k + 1 := stg_of hkl fun j hj => by
    by_cases e : i = cs[j]
    ·have hjk : j = k := (List.getElem_inj (h₀ := hj) (h₁ := hkl) (chain_nodup hc)).1 (by rw [hki, e])
     subst hjk
     rw [← e, getD_set_self hun]
     exact (decide_eq_true (by omega)).symm
    ·rw [getD_set_other e]
     rcases Nat.lt_or_ge j k with hlt | hge
     ·rw [down j hlt]; exact (decide_eq_true (by omega)).symm
     ·have hne : j ≠ k := fun e2 => e (by subst e2; exact hki.symm)
      have := up (j - k) (by omega)
      simp only [show k + (j - k) = j by omega] at this
      rw [this]; exact (decide_eq_false (by omega)).symm
   rw [s2]
   rw [s1] at hS
   exact hv w hS
  ·have s1 : stg cs (listed.setIfInBounds i true) = stg cs listed := by
    unfold stg
    congr 1
    apply List.filter_congr
    intro c hcm
    rw [getD_set_other (fun e => hni (by rw [e]; exact hcm))]
   rw [s1]
   refine hv _ ?_ w hS
   unfold lastOf
   generalize hq : cs.findIdx (fun c => edge md ops c i) = q
   have hq0 : q ≤ cs.length := by rw [← hq]; exact List.findIdx_le_length
   rcases Nat.lt_or_ge q cs.length with hlt | hge
   ·have he : edge md ops cs[q] i = true := by
     have := List.findIdx_getElem (p := fun c => edge md ops c i) (xs := cs) (w := by rw [hq]; exact hlt)
     simpa only [hq] using this
    obtain ⟨o2, ho2, e, hem, hb, hon⟩ := edge_of he
    have hql : listed.getD cs[q] false = false := by
     cases hl : listed.getD cs[q] false with
     | false => rfl
     | true =>
      have := hcl _ (List.getElem_mem hlt) hl o2 ho2 e hem hb
      rw [hon, getD_unlisted hun] at this
      cases this
    have up := closed_up hc hcl hlt hql
    unfold stg
    conv => lhs; rw [← List.take_append_drop q cs]
    rw [List.filter_append, List.length_append]
    have h2 : (cs.drop q).filter (fun c => listed.getD c false) = [] := by
     rw [List.filter_eq_nil_iff]
     intro c hcm
     obtain ⟨j, hj, rfl⟩ := List.getElem_of_mem hcm
     rw [List.length_drop] at hj
     rw [List.getElem_drop, up j (by omega)]
     simp
    rw [h2]
    refine Nat.le_trans (List.length_filter_le _ _) ?_
    rw [List.length_take]
    omega
   ·have : q = cs.length := by omega
    rw [this]
    exact List.length_filter_le _ _
 unfold StRes at key
 split at key
 ·rename_i u w' hr'
  obtain ⟨rfl, h2⟩ := key
  rw [hr']
  exact h w' (hcl.set hr) h2
 ·rename_i w' hr'
  obtain ⟨rfl, h2⟩ := key
  rw [hr']
  exact h w' (hcl.set hr) h2
 ·exact key.elim
def AllX (P : Program) (md : Region.Mode) (ops : Array Oper) (Q : Exit → Act → World → Prop) (S : Nat → World → Prop) (cs : List Nat) : Nat → Array Bool → Act → Prop
 | 0, listed, a => Region.ready md ops listed = [] ∧ ∀ w, S (stg cs listed) w → Q .normal a w
 | fuel + 1, listed, a => (Region.ready md ops listed = [] → ∀ w, S (stg cs listed) w → Q .normal a w) ∧
   ∀ i ∈ Region.ready md ops listed, ∃ oi v, ops[i]? = some oi ∧ StepX md P ops S cs i oi v a ∧ AllX P md ops Q S cs fuel (listed.setIfInBounds i true) (a.put oi.dst v)
theorem AllX.sound (hfn : ∀ f, F.fn f) (hc : chainOk md ops cs = true) (hnd : noDefer ops = true) : ∀ (fuel : Nat) (listed : Array Bool) (a : Act), AllX P md ops Q S cs fuel listed a → ∀ w, Closed md ops cs listed → S (stg cs listed) w → wpAnyIn F n P md ops Q fuel listed a w
 | 0, _, _, h, w, _, hS => ⟨h.1, h.2 w hS⟩
 | fuel + 1, listed, a, h, w, hcl, hS => ⟨fun h0 => h.1 h0 w hS, fun i hi => by
   obtain ⟨oi, v, ho, hst, hr⟩ := h.2 i hi
   exact hst.wpOp hfn hc hnd ho hi hcl hS fun w' hcl' hw' => AllX.sound hfn hc hnd fuel _ _ hr w' hcl' hw'⟩
theorem AllX.take {i : Nat} {oi : Oper} {v : Value} (hi : ops[i]? = some oi) (hsel : ∀ (j : Nat) (o : Oper) cs b, ops[j]? = some o → o.op ≠ .select cs b) :
  ∀ (fuel : Nat) (listed : Array Bool) (a : Act),
   (∀ j oj, ops[j]? = some oj → j ≠ i → listed.getD j true = false → (∀ e ∈ oj.after, Region.binds md e = true → e.on ≠ i) → oi.apart ops oj = true) →
   i ∈ Region.ready md ops listed → StepX md P ops S cs i oi v a →
   AllX P md ops Q S cs fuel (listed.setIfInBounds i true) (a.put oi.dst v) → AllX P md ops Q S cs (fuel + 1) listed a := by
 intro fuel
 induction fuel with
 | zero =>
  intro listed a _ hr hy H
  refine ⟨fun h => (by rw [h] at hr; cases hr), fun j hj => ?_⟩
  by_cases hji : j = i
  ·subst hji; exact ⟨oi, v, hi, hy, H⟩
  ·have := ready_mono hj hji
   rw [H.1] at this
   cases this
 | succ fuel ih =>
  intro listed a hfree hr hy H
  refine ⟨fun h => (by rw [h] at hr; cases hr), fun j hj => ?_⟩
  by_cases hji : j = i
  ·subst hji; exact ⟨oi, v, hi, hy, H⟩
  ·obtain ⟨oj, u, hoj, hstj, hrest⟩ := H.2 j (ready_mono hj hji)
   obtain ⟨hjun, oj', hoj', hall⟩ := mem_ready.1 hj
   rw [hoj] at hoj'
   injection hoj' with hoj'
   subst hoj'
   have hnot : ∀ e ∈ oj.after, Region.binds md e = true → e.on ≠ i := fun e he hb heq => by
    have h1 := hall e he hb
    have h0 := (mem_ready.1 hr).1
    rw [heq] at h1
    rcases Nat.lt_or_ge i listed.size with h' | h'
    ·simp [h'] at h0 h1; rw [h0] at h1; cases h1
    ·simp [Array.getElem?_eq_none h'] at h1
   have hap := hfree j oj hoj hji hjun hnot
   obtain ⟨ap1, ap2, ap3⟩ := Oper.apart_spec hap
   have hstj' : StepX md P ops S cs j oj u a := hstj.of_same (execOp_put (ops := ops) oj (fun cs b => hsel j oj cs b hoj) a oi.dst v ap1).symm (wanted_put oj a oi.dst v ap1).symm
   have hsti' : StepX md P ops S cs i oi v (a.put oj.dst u) := hy.of_same (execOp_put (ops := ops) oi (fun cs b => hsel i oi cs b hi) a oj.dst u ap3) (wanted_put oi a oj.dst u ap3)
   have hfree' : ∀ k ok, ops[k]? = some ok → k ≠ i → (listed.setIfInBounds j true).getD k true = false →
     (∀ e ∈ ok.after, Region.binds md e = true → e.on ≠ i) → oi.apart ops ok = true := fun k ok hk hki hun hno => by
    refine hfree k ok hk hki ?_ hno
    by_cases hjk : j = k
    ·subst hjk; exact hjun
    ·rw [getD_set_ne true hjk] at hun; exact hun
   refine ⟨oj, u, hoj, hstj', ih (listed.setIfInBounds j true) (a.put oj.dst u) hfree' (ready_mono hr (Ne.symm hji)) hsti' ?_⟩
   rw [Array.setIfInBounds_comm _ _ hji]
   have hcm := Act.put_comm a (x := oi.dst) (y := oj.dst) v u ap2
   rw [← hcm]
   exact hrest
def ChainX (md : Region.Mode) (P : Program) (ops : Array Oper) (S : Nat → World → Prop) (cs : List Nat) : Nat → List Oper → Act → (Act → Prop) → Prop
 | _, [], a, K => K a
 | i, o :: l, a, K => ∃ v, StepX md P ops S cs i o v a ∧ ChainX md P ops S cs (i + 1) l (a.put o.dst v) K
theorem stg_all (hc : chainOk md ops cs = true) : stg cs (listedTo ops.size ops.size) = cs.length := by
 refine stg_of (Nat.le_refl _) fun j hj => ?_
 unfold chainOk at hc
 simp only [Bool.and_eq_true, List.all_eq_true, decide_eq_true_eq] at hc
 have := hc.1.2 _ (List.getElem_mem hj)
 rw [decide_eq_true hj]
 simp [listedTo, Array.getD_eq_getD_getElem?, this]
theorem AllX.of_chain (hc : chainOk md ops cs = true) (ht : textOk md ops = true) : ∀ (l : List Oper) (i : Nat) (a : Act), (∀ j, l[j]? = ops[i + j]?) → i + l.length = ops.size →
  ChainX md P ops S cs i l a (fun a' => ∀ w, S cs.length w → Q .normal a' w) → AllX P md ops Q S cs l.length (listedTo ops.size i) a := by
 unfold textOk at ht
 rw [Bool.and_eq_true, List.all_eq_true] at ht
 obtain ⟨hs, hall⟩ := ht
 intro l
 induction l with
 | nil =>
  intro i a _ hlen h
  simp at hlen
  subst hlen
  refine ⟨?_, fun w hw => h w (by rwa [stg_all hc] at hw)⟩
  rw [List.eq_nil_iff_forall_not_mem]
  intro j hj
  obtain ⟨h0, o, ho, _⟩ := mem_ready.1 hj
  have hlt := (Array.getElem?_eq_some_iff.1 ho).1
  simp [listedTo, hlt] at h0
 | cons o l ih =>
  intro i a hl hlen h
  obtain ⟨v, hst, hrest⟩ := h
  have ho : ops[i]? = some o := by simpa using (hl 0).symm
  have hlt : i < ops.size := (Array.getElem?_eq_some_iff.1 ho).1
  have hcc := hall i (List.mem_range.2 hlt)
  rw [Bool.and_eq_true] at hcc
  refine AllX.take ho (Region.noSelect_spec hs) l.length (listedTo ops.size i) a (Region.free_spec ho hcc.1) (by unfold listedTo; simpa using hcc.2) hst ?_
  rw [listedTo_succ]
  exact ih (i + 1) _ (fun j => by have := hl (j + 1); simpa [Nat.add_assoc, Nat.add_comm 1 j] using this) (by simp at hlen; omega) hrest
theorem ChainX.pure {i : Nat} {o : Oper} {l : List Oper} {a : Act} {K : Act → Prop} (v : Value) (hw : Region.wanted o (yielded ops a.tmps) = true) (hi : i ∉ cs) (hr : ∀ t, t ≤ lastOf md ops cs i → ∀ w, S t w → StRes S t v ((execOp a.eval o).run P w))
  (h : ChainX md P ops S cs (i + 1) l (a.put o.dst v) K) : ChainX md P ops S cs i (o :: l) a K := ⟨v, ⟨hw, .inr ⟨hi, hr⟩⟩, h⟩
theorem ChainX.change {i : Nat} {o : Oper} {l : List Oper} {a : Act} {K : Act → Prop} (k : Nat) (v : Value) (hw : Region.wanted o (yielded ops a.tmps) = true) (hi : cs[k]? = some i) (hr : ∀ w, S k w → StRes S (k + 1) v ((execOp a.eval o).run P w))
  (h : ChainX md P ops S cs (i + 1) l (a.put o.dst v) K) : ChainX md P ops S cs i (o :: l) a K := ⟨v, ⟨hw, .inl ⟨k, hi, hr⟩⟩, h⟩
theorem ChainX.nil {i : Nat} {a : Act} {K : Act → Prop} (h : K a) : ChainX md P ops S cs i [] a K := h
theorem StRes_value {t : Nat} {v u : Value} {w' : World} : StRes S t v (.ok (.value u) w') = (u = v ∧ S t w') := rfl
theorem StRes_skip {t : Nat} {v : Value} {w' : World} : StRes S t v (.ok .skip w') = (v = undef ∧ S t w') := rfl
theorem wpIn_region_staged {id : Nat} {l : List Oper} {a : Act} {w : World} (hfn : ∀ f, F.fn f) (hm : P.follows .mixedOrders = true) (S : Nat → World → Prop) (cs : List Nat) (hS : S 0 { w with drawn := w.drawn + 1 })
  (hc : chainOk .any l.toArray cs = true) (hnd : noDefer l.toArray = true) (ht : textOk .any l.toArray = true)
  (h : ChainX .any P l.toArray S cs 0 l a (fun a' => ∀ w, S cs.length w → Q .normal a' w)) : (Code.region id l.toArray true).wpIn F n P Q a w := by
 refine wpIn_region_any hm ?_
 have h0 : Array.replicate l.toArray.size false = listedTo l.toArray.size 0 := by
  apply Array.ext_getElem?
  intro j
  simp only [listedTo, Array.getElem?_replicate, Array.getElem?_map, Array.getElem?_range]
  split <;> simp
 rw [h0]
 have := AllX.of_chain (P := P) (ops := l.toArray) (md := .any) (Q := Q) (S := S) (cs := cs) hc ht l 0 a (fun j => by simp) (by simp) h
 have hun : ∀ c, (listedTo l.toArray.size 0).getD c false = false := fun c => by
  simp only [listedTo, Array.getD_eq_getD_getElem?, Array.getElem?_map]
  cases (Array.range l.toArray.size)[c]? <;> simp
 have hz : stg cs (listedTo l.toArray.size 0) = 0 := stg_of (Nat.zero_le _) fun j hj => by rw [hun]; simp
 exact AllX.sound hfn hc hnd _ _ _ (by simpa using this) _ (fun c _ hl => by rw [hun] at hl; cases hl) (by rw [hz]; exact hS)
end
end
section
abbrev Slots := List (Nat × Value)
def sget : Slots → Nat → Option Value
 | [], _ => none
 | (j, v) :: l, k => if j = k then some v else sget l k
def sput (l : Slots) (dst : Option Tmp) (v : Value) : Slots := match dst with | some d => (d, v) :: l | none => l
def slk (l : Slots) : Operand → Value
 | .tmp t => (sget l t).getD undef
 | .const v => v
 | .global g => .pointer (some ⟨g, 0, none⟩)
 | .func f => .func (.func f) #[] #[]
structure Fr (N : Nat) (ds : List Deferred) (l : Slots) (a : Act) : Prop where
 size : a.tmps.size = N
 defs : a.defers = ds
 know : ∀ k v, sget l k = some v → a.tmps[k]? = some v
def sknown (l : Slots) : Operand → Bool
 | .tmp t => (sget l t).isSome
 | _ => true
def sknow (l : Slots) (o : Oper) : Bool := o.op.operands.toList.all (sknown l)
def plainOp (N : Nat) (o : Oper) : Bool := (match o.op with | .select _ _ => false | .defer _ => false | _ => true) && ((match o.dst with | some d => decide (d < N) | none => true) && o.guard.isNone)
theorem plainOp_dst {N : Nat} {o : Oper} (h : plainOp N o = true) : ∀ d, o.dst = some d → d < N := by
 intro d hd
 unfold plainOp at h
 rw [hd] at h
 simp only [Bool.and_eq_true, decide_eq_true_eq] at h
 exact h.2.1
theorem plainOp_guard {N : Nat} {o : Oper} (h : plainOp N o = true) : o.guard = none := by
 unfold plainOp at h
 simp only [Bool.and_eq_true] at h
 exact Option.isNone_iff_eq_none.1 h.2.2
theorem plainOp_select {N : Nat} {o : Oper} (h : plainOp N o = true) : ∀ cs b, o.op ≠ .select cs b := by
 intro cs b e
 unfold plainOp at h
 rw [e] at h
 simp at h
theorem plainOp_wanted {N : Nat} {o : Oper} (h : plainOp N o = true) (f : Nat → Option Bool) : Region.wanted o f = true := by
 unfold Region.wanted
 rw [plainOp_guard h]
section
variable {N : Nat} {ds : List Deferred} {l l' : Slots} {a : Act}
theorem Fr.eval_of (h : Fr N ds l a) {x : Operand} (hx : sknown l x = true) : a.eval x = slk l x := by
 cases x with
 | tmp t =>
  obtain ⟨v, hv⟩ := Option.isSome_iff_exists.1 hx
  have := h.know t v hv
  simp [Act.eval, slk, hv, Array.getD_eq_getD_getElem?, this]
 | const v => rfl
 | global g => rfl
 | func f => rfl
theorem Fr.tmp (h : Fr N ds l a) {k : Nat} {v : Value} (hk : sget l k = some v) : a.eval (.tmp k) = v := by
 simp [Act.eval, Array.getD_eq_getD_getElem?, h.know k v hk]
theorem Fr.exec (h : Fr N ds l a) {o : Oper} (hk : sknow l o = true) (hs : ∀ cs b, o.op ≠ .select cs b) : execOp a.eval o = execOp (slk l) o :=
 execOp_congr o hs fun x hx => h.eval_of (by
  unfold sknow at hk
  rw [List.all_eq_true] at hk
  exact hk x (Array.mem_toList_iff.2 hx))
theorem Fr.put (h : Fr N ds l a) (dst : Option Tmp) (hd : ∀ d, dst = some d → d < N) (v : Value) : Fr N ds (sput l dst v) (a.put dst v) := by
 cases dst with
 | none => exact h
 | some d =>
  have hlt := hd d rfl
  refine ⟨by simp [Act.put, h.size], h.defs, fun k u hk => ?_⟩
  simp only [sput, sget] at hk
  simp only [Act.put]
  split at hk
  ·rename_i e
   subst e
   cases hk
   simp [h.size, hlt]
  ·rename_i e
   rw [Array.getElem?_setIfInBounds_ne e]
   exact h.know k u hk
def Sub (l : Slots) : Slots → Prop
 | [] => True
 | (k, v) :: r => sget l k = some v ∧ Sub l r
theorem Sub.get : ∀ {r : Slots}, Sub l r → ∀ k v, sget r k = some v → sget l k = some v
 | [], _, _, _, h => by cases h
 | (j, u) :: r, hs, k, v, h => by
  simp only [sget] at h
  split at h
  ·rename_i e
   subst e
   cases h
   exact hs.1
  ·exact Sub.get hs.2 k v h
theorem Fr.sub (h : Fr N ds l a) (hs : Sub l l') : Fr N ds l' a := ⟨h.size, h.defs, fun k v hk => h.know k v (hs.get k v hk)⟩
end
theorem key_lt {b : Nat} : ∀ {l : Slots}, (l.all fun p => decide (p.1 < b)) = true → ∀ k v, sget l k = some v → k < b
 | [], _, _, _, h => by cases h
 | (j, u) :: l, hl, k, v, h => by
  simp only [List.all_cons, Bool.and_eq_true, decide_eq_true_eq] at hl
  simp only [sget] at h
  split at h
  ·rename_i e; subst e; exact hl.1
  ·exact key_lt hl.2 k v h
theorem Fr.lower {N b : Nat} {ds : List Deferred} {l l' : Slots} {a : Act} (h : Fr N ds l' a) (hl : (l.all fun p => decide (p.1 < b)) = true) (he : ∀ k, k < b → sget l' k = sget l k) : Fr N ds l a :=
 ⟨h.size, h.defs, fun k v hk => h.know k v (by rw [he k (key_lt hl k v hk)]; exact hk)⟩
def uponK (P : Program) (Pn : List PanicEntry → World → Prop) (k : Value → World → Prop) : Result Next → Prop
 | .ok (.value v) w' => k v w'
 | .ok .skip w' => k undef w'
 | .ok (.enter f args) w' => Calls P f args w' fun e w'' => match e with
  | .returned v => k v w''
  | .panicked c => Pn c w''
  | .outgrown => False
 | _ => False
def swant (ops : List Oper) (l : Slots) (o : Oper) : Option Bool := match o.guard with
 | none => some true
 | some (g, want) => match (ops[g]?).bind (·.dst) with
  | some t => match sget l t with
   | some (.bool b) => some (b == want)
   | _ => none
  | none => none
def plainG (N : Nat) (o : Oper) : Bool := (match o.op with | .select _ _ => false | .defer _ => false | _ => true) && (match o.dst with | some d => decide (d < N) | none => true)
def OpsK (P : Program) (N : Nat) (Pn : List PanicEntry → World → Prop) (ops : List Oper) : List Oper → Slots → World → (Slots → World → Prop) → Prop
 | [], l, w, K => K l w
 | o :: r, l, w, K => plainG N o = true ∧ ((swant ops l o = some true ∧ sknow l o = true ∧ uponK P Pn (fun v w' => OpsK P N Pn ops r (sput l o.dst v) w' K) ((execOp (slk l) o).run P w)) ∨ (swant ops l o = some false ∧ OpsK P N Pn ops r (sput l o.dst undef) w K))
theorem plainG_dst {N : Nat} {o : Oper} (h : plainG N o = true) : ∀ d, o.dst = some d → d < N := by
 intro d hd
 unfold plainG at h
 rw [hd] at h
 simp only [Bool.and_eq_true, decide_eq_true_eq] at h
 exact h.2
theorem plainG_select {N : Nat} {o : Oper} (h : plainG N o = true) : ∀ cs b, o.op ≠ .select cs b := by
 intro cs b e
 unfold plainG at h
 rw [e] at h
 simp at h
theorem plainG_defer {N : Nat} {o : Oper} (h : plainG N o = true) : ∀ c, o.op ≠ .defer c := by
 intro c e
 unfold plainG at h
 rw [e] at h
 simp at h
theorem Fr.wanted {N : Nat} {ds : List Deferred} {l : Slots} {a : Act} (h : Fr N ds l a) {ops : List Oper} {o : Oper} {b : Bool} (hw : swant ops l o = some b) : Region.wanted o (yielded ops.toArray a.tmps) = b := by
 unfold swant at hw
 unfold Region.wanted
 split at hw
 ·rename_i hg
  rw [hg]
  exact Option.some.inj hw
 ·rename_i g want hg
  rw [hg]
  split at hw
  ·rename_i t ht
   split at hw
   ·rename_i u hu
    have := h.know t _ hu
    simp only [yielded, List.getElem?_toArray, ht, Option.bind_some, this]
    have hw := Option.some.inj hw
    rw [← hw]
    cases u <;> cases want <;> rfl
   ·cases hw
  ·cases hw
section
variable {F : Fence} {n : Nat} {P : Program} {N : Nat} {ds : List Deferred} {Q : Exit → Act → World → Prop} {Pn : List PanicEntry → World → Prop}
theorem OpsK.sound (hfn : ∀ f, F.fn f) (hdep : F.depth = none) (hC : ∀ f args w R, Calls P f args w R → CallsIn F (n - 1) P f args w R) (hP : ∀ c a w, a.defers = ds → Pn c w → Q (.panic c) a w) (ops : List Oper) : ∀ (r : List Oper) (l : Slots) (a : Act) (w : World), Fr N ds l a →
  OpsK P N Pn ops r l w (fun l' w' => ∀ a', Fr N ds l' a' → Q .normal a' w') → wpListIn F n P ops.toArray Q r a w
 | [], _, a, _, hf, h => wpListIn_nil (h a hf)
 | o :: r, l, a, w, hf, h => by
  obtain ⟨hp, h⟩ := h
  refine wpListIn_step fun K hK => ?_
  have hput := fun v => hf.put o.dst (plainG_dst hp) v
  rcases h with ⟨hw, hk, h⟩ | ⟨hw, h⟩
  ·rw [hf.wanted hw, if_pos rfl]
   refine ⟨fun f _ => hfn f, ?_⟩
   rw [Oper.semAt_eq _ _ _ (plainG_defer hp), hf.exec hk (plainG_select hp)]
   unfold uponK at h
   split at h
   ·rename_i v w' hr
    rw [hr]
    exact hK _ _ (OpsK.sound hfn hdep hC hP ops r _ _ _ (hput v) h)
   ·rename_i w' hr
    rw [hr]
    exact hK _ _ (OpsK.sound hfn hdep hC hP ops r _ _ _ (hput undef) h)
   ·rename_i f args w' hr
    rw [hr]
    refine ⟨fun hd => (by rw [hdep] at hd; cases hd), hC _ _ _ _ (h.mono ?_)⟩
    intro e w'' hq
    cases e with
    | returned v => exact hK _ _ (OpsK.sound hfn hdep hC hP ops r _ _ _ (hput v) hq)
    | panicked c => exact hP c a w'' hf.defs hq
    | outgrown => exact hq.elim
   ·exact h.elim
  ·rw [hf.wanted hw, if_neg (by simp)]
   exact ⟨fun f _ => hfn f, hK _ _ (OpsK.sound hfn hdep hC hP ops r _ _ _ (hput undef) h)⟩
theorem wpIn_region_p (hfn : ∀ f, F.fn f) (hdep : F.depth = none) (hC : ∀ f args w R, Calls P f args w R → CallsIn F (n - 1) P f args w R) {id : Nat} {r : List Oper} {l : Slots} {a : Act} {w : World} (hf : Fr N ds l a)
  (h : ∀ (K : Slots → World → Prop) (Pn : List PanicEntry → World → Prop), (∀ l' w', (∀ a', Fr N ds l' a' → Q .normal a' w') → K l' w') → (∀ c w', (∀ a', a'.defers = ds → Q (.panic c) a' w') → Pn c w') → OpsK P N Pn r r l w K) : (Code.region id r.toArray false).wpIn F n P Q a w :=
 wpIn_region_lit (OpsK.sound (Pn := fun c w' => ∀ a', a'.defers = ds → Q (.panic c) a' w') hfn hdep hC (fun _ a _ ha h => h a ha) r r l a w hf (h _ _ (fun _ _ h => h) fun _ _ h => h))
theorem wpIn_region_k (hfn : ∀ f, F.fn f) (hdep : F.depth = none) (hC : ∀ f args w R, Calls P f args w R → CallsIn F (n - 1) P f args w R) {id : Nat} {r : List Oper} {l : Slots} {a : Act} {w : World} (hf : Fr N ds l a)
  (h : ∀ K : Slots → World → Prop, (∀ l' w', (∀ a', Fr N ds l' a' → Q .normal a' w') → K l' w') → OpsK P N (fun _ _ => False) r r l w K) : (Code.region id r.toArray false).wpIn F n P Q a w :=
 wpIn_region_lit (OpsK.sound (Pn := fun _ _ => False) hfn hdep hC (fun _ _ _ _ h => h.elim) r r l a w hf (h _ fun _ _ h => h))
theorem OpsK.step {ops : List Oper} {o : Oper} {r : List Oper} {l : Slots} {w : World} {K : Slots → World → Prop} (hp : plainG N o = true) (hw : swant ops l o = some true) (hk : sknow l o = true) (h : uponK P Pn (fun v w' => OpsK P N Pn ops r (sput l o.dst v) w' K) ((execOp (slk l) o).run P w)) : OpsK P N Pn ops (o :: r) l w K := ⟨hp, .inl ⟨hw, hk, h⟩⟩
theorem OpsK.skip {ops : List Oper} {o : Oper} {r : List Oper} {l : Slots} {w : World} {K : Slots → World → Prop} (hp : plainG N o = true) (hw : swant ops l o = some false) (h : OpsK P N Pn ops r (sput l o.dst undef) w K) : OpsK P N Pn ops (o :: r) l w K := ⟨hp, .inr ⟨hw, h⟩⟩
theorem OpsK.nil {ops : List Oper} {l : Slots} {w : World} {K : Slots → World → Prop} (h : K l w) : OpsK P N Pn ops [] l w K := h
theorem uponK_value {k : Value → World → Prop} {v : Value} {w' : World} : uponK P Pn k (.ok (.value v) w') = k v w' := rfl
theorem uponK_skip {k : Value → World → Prop} {w' : World} : uponK P Pn k (.ok .skip w') = k undef w' := rfl
theorem uponK_enter {k : Value → World → Prop} {f : FuncId} {args : Array Value} {w' : World} : uponK P Pn k (.ok (.enter f args) w') = Calls P f args w' fun e w'' => match e with
  | .returned v => k v w''
  | .panicked c => Pn c w''
  | .outgrown => False := rfl
theorem callsIn_inRound {L m : Nat} {f : FuncId} {args : Array Value} {w : World} {R : Ending → World → Prop} (h : Calls P f args w R) : CallsIn (Fence.wide.inRound L) m P f args w R := (callsIn_wide (n := m)).2 h
theorem fr_of {N : Nat} {ds : List Deferred} {l : Slots} {a : Act} (hs : a.tmps.size = N) (hd : a.defers = ds) (hl : ∀ p ∈ l, a.tmps[p.1]? = some p.2) : Fr N ds l a := by
 refine ⟨hs, hd, fun k v hk => ?_⟩
 have : ∀ l : Slots, sget l k = some v → (k, v) ∈ l := by
  intro l
  induction l with
  | nil => intro h; cases h
  | cons p r ih =>
   obtain ⟨j, u⟩ := p
   intro h
   simp only [sget] at h
   split at h
   ·rename_i e; subst e; cases h; exact List.mem_cons_self
   ·exact List.mem_cons_of_mem _ (ih h)
 exact hl _ (this l hk)
def slotsOf : Nat → List Value → Slots
 | _, [] => []
 | i, v :: l => (i, v) :: slotsOf (i + 1) l
theorem mem_slotsOf : ∀ (l : List Value) (i : Nat) (p : Nat × Value), p ∈ slotsOf i l → ∃ j, p.1 = i + j ∧ l[j]? = some p.2
 | [], _, _, h => by cases h
 | v :: l, i, p, h => by
  rcases List.mem_cons.1 h with rfl | h
  ·exact ⟨0, rfl, rfl⟩
  ·obtain ⟨j, h1, h2⟩ := mem_slotsOf l (i + 1) p h
   exact ⟨j + 1, by omega, h2⟩
theorem callsK {fn : Func} {c : Code} {f : FuncId} {args : List Value} {w : World} {R : Ending → World → Prop} (hf : P.funcs[f]? = some fn) (hb : fn.body = some c) (hn : fn.ntmps = N) (ha : args.length ≤ N)
  (h : ∀ a, Fr N [] (slotsOf 0 args) a → c.wpIn Fence.wide 8 P (bodyPost P fn R) a w) : Calls P f args.toArray w R := by
 refine (callsIn_wide (n := 8)).1 (callsIn_of_wp hf hb trivial (h _ (fr_of ?_ rfl ?_)))
 ·simp [hn]; omega
 ·intro p hp
  obtain ⟨j, h1, h2⟩ := mem_slotsOf args 0 p hp
  have hj := (List.getElem?_eq_some_iff.1 h2).1
  rw [h1, Nat.zero_add]
  rw [Array.getElem?_append_left (by simpa using hj)]
  simpa using h2
theorem wideC {P : Program} {m : Nat} : ∀ f args w R, Calls P f args w R → CallsIn Fence.wide m P f args w R := fun _ _ _ _ h => callsIn_wide.2 h
theorem Fr.ret0 {fn : Func} {R : Ending → World → Prop} {l : Slots} {a : Act} {w : World} (h : Fr N [] l a) (hr : fn.results = #[]) (hR : R (.returned (.tuple #[])) w) : bodyPost P fn R .ret a w := bodyPost_ret (results_none hr _ _ _) h.defs hR
theorem Fr.end0 {fn : Func} {R : Ending → World → Prop} {l : Slots} {a : Act} {w : World} (h : Fr N [] l a) (hr : fn.results = #[]) (hR : R (.returned (.tuple #[])) w) : bodyPost P fn R .normal a w := bodyPost_end (results_none hr _ _ _) h.defs hR
theorem Fr.getD {l : Slots} {a : Act} (h : Fr N ds l a) {k : Nat} {v : Value} (hk : sget l k = some v) : a.tmps.getD k undef = v := h.tmp hk
theorem Fr.ret1 {fn : Func} {R : Ending → World → Prop} {l : Slots} {a : Act} {w : World} {t : Nat} {v : Value} (h : Fr N [] l a) (hr : fn.results = #[.tmp t]) (hk : sget l t = some v) (hR : R (.returned v) w) : bodyPost P fn R .ret a w :=
 bodyPost_ret (results_tmp hr _ _ _) h.defs (by rw [h.getD hk]; exact hR)
theorem Fr.ret2 {fn : Func} {R : Ending → World → Prop} {l : Slots} {a : Act} {w : World} {t u : Nat} {v x : Value} (h : Fr N [] l a) (hr : fn.results = #[.tmp t, .tmp u]) (hk : sget l t = some v) (hk2 : sget l u = some x) (hR : R (.returned (.tuple #[v, x])) w) : bodyPost P fn R .ret a w :=
 bodyPost_ret (results_tmp2 hr _ _ _) h.defs (by rw [h.getD hk, h.getD hk2]; exact hR)
def ChainK (md : Region.Mode) (P : Program) (N : Nat) (ops : Array Oper) (S : Nat → World → Prop) (cs : List Nat) : Nat → List Oper → Slots → (Slots → Prop) → Prop
 | _, [], l, K => K l
 | i, o :: r, l, K => ∃ v, plainOp N o = true ∧ sknow l o = true ∧
   ((∃ k, cs[k]? = some i ∧ ∀ w, S k w → StRes S (k + 1) v ((execOp (slk l) o).run P w)) ∨ (i ∉ cs ∧ ∀ t, t ≤ lastOf md ops cs i → ∀ w, S t w → StRes S t v ((execOp (slk l) o).run P w))) ∧ ChainK md P N ops S cs (i + 1) r (sput l o.dst v) K
theorem ChainK.sound {md : Region.Mode} {ops : Array Oper} {S : Nat → World → Prop} {cs : List Nat} {K : Slots → Prop} : ∀ (r : List Oper) (i : Nat) (l : Slots) (a : Act), Fr N ds l a → ChainK md P N ops S cs i r l K →
  ChainX md P ops S cs i r a (fun a' => ∃ l', Fr N ds l' a' ∧ K l')
 | [], _, l, _, hf, h => ⟨l, hf, h⟩
 | o :: r, i, l, a, hf, h => by
  obtain ⟨v, hp, hk, hv, hr⟩ := h
  refine ⟨v, ⟨plainOp_wanted hp _, ?_⟩, ChainK.sound r (i + 1) _ _ (hf.put o.dst (plainOp_dst hp) v) hr⟩
  rw [hf.exec hk (plainOp_select hp)]
  exact hv
theorem ChainX.mono {md : Region.Mode} {ops : Array Oper} {S : Nat → World → Prop} {cs : List Nat} {K K' : Act → Prop} (hK : ∀ a, K a → K' a) : ∀ (r : List Oper) (i : Nat) (a : Act), ChainX md P ops S cs i r a K → ChainX md P ops S cs i r a K'
 | [], _, _, h => hK _ h
 | _ :: r, i, _, ⟨v, hs, h⟩ => ⟨v, hs, ChainX.mono hK r (i + 1) _ h⟩
theorem ChainK.pure {md : Region.Mode} {ops : Array Oper} {S : Nat → World → Prop} {cs : List Nat} {i : Nat} {o : Oper} {r : List Oper} {l : Slots} {K : Slots → Prop} (v : Value) (hp : plainOp N o = true) (hk : sknow l o = true) (hi : i ∉ cs)
  (hr : ∀ t, t ≤ lastOf md ops cs i → ∀ w, S t w → StRes S t v ((execOp (slk l) o).run P w)) (h : ChainK md P N ops S cs (i + 1) r (sput l o.dst v) K) : ChainK md P N ops S cs i (o :: r) l K := ⟨v, hp, hk, .inr ⟨hi, hr⟩, h⟩
theorem ChainK.change {md : Region.Mode} {ops : Array Oper} {S : Nat → World → Prop} {cs : List Nat} {i : Nat} {o : Oper} {r : List Oper} {l : Slots} {K : Slots → Prop} (k : Nat) (v : Value) (hp : plainOp N o = true) (hk : sknow l o = true) (hi : cs[k]? = some i)
  (hr : ∀ w, S k w → StRes S (k + 1) v ((execOp (slk l) o).run P w)) (h : ChainK md P N ops S cs (i + 1) r (sput l o.dst v) K) : ChainK md P N ops S cs i (o :: r) l K := ⟨v, hp, hk, .inl ⟨k, hi, hr⟩, h⟩
theorem wpIn_region_KX (hfn : ∀ f, F.fn f) (hm : P.follows .mixedOrders = true) {id : Nat} {r : List Oper} {l : Slots} {a : Act} {w : World} (hf : Fr N ds l a) (S : Nat → World → Prop) (cs : List Nat) (hS : S 0 { w with drawn := w.drawn + 1 })
  (hc : chainOk .any r.toArray cs = true) (hnd : noDefer r.toArray = true) (ht : textOk .any r.toArray = true)
  (h : ChainK .any P N r.toArray S cs 0 r l (fun l' => ∀ a' w', Fr N ds l' a' → S cs.length w' → Q .normal a' w')) : (Code.region id r.toArray true).wpIn F n P Q a w :=
 wpIn_region_staged hfn hm S cs hS hc hnd ht (ChainX.mono (fun _ ⟨_, hf', hq⟩ w' hw' => hq _ w' hf' hw') r 0 a (ChainK.sound r 0 l a hf h))
end
section
variable {P : Program} {N : Nat} {ds : List Deferred}
def ChainC (P : Program) (N : Nat) (ops : List Oper) (S : World → Prop) : List Oper → Slots → (Slots → Prop) → Prop
 | [], l, K => K l
 | o :: r, l, K => ∃ v, plainG N o = true ∧ ((swant ops l o = some true ∧ sknow l o = true ∧ ∀ w, S w → SteadyRes P S v ((execOp (slk l) o).run P w)) ∨ (swant ops l o = some false ∧ v = undef)) ∧ ChainC P N ops S r (sput l o.dst v) K
theorem ChainC.sound {ops : List Oper} {S : World → Prop} {K : Slots → Prop} : ∀ (r : List Oper) (l : Slots) (a : Act), Fr N ds l a → ChainC P N ops S r l K → Chain P ops.toArray S r a (fun a' => ∃ l', Fr N ds l' a' ∧ K l')
 | [], l, _, hf, h => ⟨l, hf, h⟩
 | o :: r, l, a, hf, h => by
  obtain ⟨v, hp, hv, hr⟩ := h
  refine ⟨v, ?_, ChainC.sound r _ _ (hf.put o.dst (plainG_dst hp) v) hr⟩
  rcases hv with ⟨hw, hk, hv⟩ | ⟨hw, rfl⟩
  ·refine .inl ⟨hf.wanted hw, ?_⟩
   rw [hf.exec hk (plainG_select hp)]
   exact hv
  ·exact .inr ⟨hf.wanted hw, rfl⟩
theorem Chain.mono {ops : Array Oper} {S : World → Prop} {K K' : Act → Prop} (hK : ∀ a, K a → K' a) : ∀ (r : List Oper) (a : Act), Chain P ops S r a K → Chain P ops S r a K'
 | [], _, h => hK _ h
 | _ :: r, _, ⟨v, hs, h⟩ => ⟨v, hs, Chain.mono hK r _ h⟩
theorem ChainC.val {ops : List Oper} {S : World → Prop} {o : Oper} {r : List Oper} {l : Slots} {K : Slots → Prop} (v : Value) (hp : plainG N o = true) (hw : swant ops l o = some true) (hk : sknow l o = true) (hr : ∀ w, S w → SteadyRes P S v ((execOp (slk l) o).run P w)) (h : ChainC P N ops S r (sput l o.dst v) K) : ChainC P N ops S (o :: r) l K := ⟨v, hp, .inl ⟨hw, hk, hr⟩, h⟩
theorem ChainC.skip {ops : List Oper} {S : World → Prop} {o : Oper} {r : List Oper} {l : Slots} {K : Slots → Prop} (hp : plainG N o = true) (hw : swant ops l o = some false) (h : ChainC P N ops S r (sput l o.dst undef) K) : ChainC P N ops S (o :: r) l K := ⟨undef, hp, .inr ⟨hw, rfl⟩, h⟩
theorem ChainC.nil {ops : List Oper} {S : World → Prop} {l : Slots} {K : Slots → Prop} (h : K l) : ChainC P N ops S [] l K := h
theorem wpIn_region_S {n id : Nat} {r : List Oper} {l : Slots} {a : Act} {w : World} {Q : Exit → Act → World → Prop} (hm : P.follows .mixedOrders = true) (hf : Fr N ds l a) (S : World → Prop) (hS : S { w with drawn := w.drawn + 1 }) (ht : textOk .any r.toArray = true)
  (h : ∀ K : Slots → Prop, (∀ l', (∀ a' w', Fr N ds l' a' → S w' → Q .normal a' w') → K l') → ChainC P N r S r l K) : (Code.region id r.toArray true).wpIn Fence.wide n P Q a w :=
 wpIn_wide.2 (wp_region_steady hm S hS ht (Chain.mono (fun _ ⟨_, hf', hq⟩ w' hw' => hq _ w' hf' hw') r a (ChainC.sound r l a hf (h _ fun _ h => h))))
end
end
section
section
variable {n : Nat} {P : Program} {ops : Array Oper} {Q : Exit → Act → World → Prop} {md : Region.Mode} {S : World → Prop}
def PureRes (v : Value) (w : World) : Result Next → Prop
 | .ok (.value u) w' => u = v ∧ w' = w
 | .ok .skip w' => v = undef ∧ w' = w
 | _ => False
def PureAt (P : Program) (ops : Array Oper) (S : World → Prop) (o : Oper) (v : Value) (a : Act) : Prop :=
 (Region.wanted o (yielded ops a.tmps) = true ∧ ∀ w, S w → PureRes v w ((execOp a.eval o).run P w)) ∨ (Region.wanted o (yielded ops a.tmps) = false ∧ v = undef)
theorem PureAt.of_same {o : Oper} {v : Value} {a a' : Act} (h : PureAt P ops S o v a) (he : execOp a'.eval o = execOp a.eval o)
  (hw : Region.wanted o (yielded ops a'.tmps) = Region.wanted o (yielded ops a.tmps)) : PureAt P ops S o v a' := by
 unfold PureAt at *
 rw [he, hw]
 exact h
theorem PureAt.wpOp {i : Nat} {o : Oper} {v : Value} {a : Act} (hi : ops[i]? = some o) (hd : ∀ c, o.op ≠ .defer c) (hy : PureAt P ops S o v a) {K : Act → World → Prop} {w : World} (hS : S w) (h : K (a.put o.dst v) w) :
  wpOpIn Fence.wide n P ops Q i K a w := by
 unfold wpOpIn
 simp only [hi]
 rcases hy with ⟨hw, hv⟩ | ⟨hw, rfl⟩
 ·simp only [hw, if_true, Oper.wpIn]
  refine ⟨fun f _ => trivial, ?_⟩
  rw [Oper.semAt_eq _ _ _ hd]
  have h1 := hv w hS
  unfold PureRes at h1
  split at h1
  ·rename_i u w' hr
   obtain ⟨rfl, rfl⟩ := h1
   rw [hr]
   exact h
  ·rename_i w' hr
   obtain ⟨rfl, rfl⟩ := h1
   rw [hr]
   exact h
  ·exact h1.elim
 ·simp only [hw, Bool.false_eq_true, if_false]
  exact ⟨fun f _ => trivial, h⟩
theorem wpOpIn_over {j : Nat} {oi oj : Oper} {v : Value} (hj : ops[j]? = some oj) (hap : oi.apart ops oj = true) (hsi : ∀ cs b, oi.op ≠ .select cs b) (hsj : ∀ cs b, oj.op ≠ .select cs b) (hdj : ∀ c, oj.op ≠ .defer c)
  (hQ : ∀ c a a' w, a'.defers = a.defers → Q (.panic c) a w → Q (.panic c) a' w) {K : Act → World → Prop} {a : Act} {w : World}
  (hy : PureAt P ops S oi v a) (h : wpOpIn Fence.wide n P ops Q j K (a.put oi.dst v) w) :
  wpOpIn Fence.wide n P ops Q j (fun a' w' => PureAt P ops S oi v a' ∧ K (a'.put oi.dst v) w') a w := by
 obtain ⟨h1, h2, h3⟩ := Oper.apart_spec hap
 have keep : ∀ (a : Act), PureAt P ops S oi v a → ∀ u, PureAt P ops S oi v (a.put oj.dst u) := fun a hy u =>
  hy.of_same (execOp_put oi hsi a oj.dst u h3) (wanted_put oi a oj.dst u h3)
 have hdf : ∀ (a : Act), a.defers = (a.put oi.dst v).defers := fun a => by unfold Act.put; split <;> rfl
 unfold wpOpIn at *
 simp only [hj] at *
 rw [wanted_put oj a oi.dst v h1] at h
 split
 ·rename_i hw
  simp only [hw, if_true] at h
  unfold Oper.wpIn at *
  refine ⟨fun f _ => trivial, ?_⟩
  have h := h.2
  rw [Oper.semAt_eq _ _ _ hdj, execOp_put oj hsj a oi.dst v h1] at h
  rw [Oper.semAt_eq _ _ _ hdj]
  generalize (execOp a.eval oj).run P w = r at *
  cases r with
  | ok x w' =>
   cases x <;> simp only [Oper.uponIn] at h ⊢
   case value u => exact ⟨keep a hy u, by rw [← Act.put_comm a v u h2]; exact h⟩
   case skip => exact ⟨keep a hy _, by rw [← Act.put_comm a v undef h2]; exact h⟩
   case defer d =>
    refine ⟨?_, ?_⟩
    ·exact keep { a with defers := d :: a.defers } (hy.of_same rfl rfl) _
    ·rw [← Act.put_comm _ v undef h2, ← Act.put_defers]
     exact h
   case enter f args =>
    refine ⟨h.1, CallsIn.mono h.2 fun e w'' he => ?_⟩
    cases e with
    | returned u => exact ⟨keep a hy u, by rw [← Act.put_comm a v u h2]; exact he⟩
    | panicked c => exact hQ _ _ _ _ (hdf a) he
    | outgrown => exact he
   case row row args => exact ⟨h.1, RowsIn.mono h.2 fun u w'' he => ⟨keep a hy u, by rw [← Act.put_comm a v u h2]; exact he⟩⟩
   case round l f tmps assign body =>
    refine ⟨h.1, RoundIn.mono h.2 fun e w'' he => ?_⟩
    cases e with
    | returned u => exact ⟨keep a hy u, by rw [← Act.put_comm a v u h2]; exact he⟩
    | panicked c => exact hQ _ _ _ _ (hdf a) he
    | outgrown => exact he
  | halt x w' =>
   cases x <;> simp only [Oper.uponIn] at h ⊢
   exact hQ _ _ _ _ (hdf a) h
 ·rename_i hw
  simp only [hw, Bool.false_eq_true, if_false] at h
  exact ⟨fun f _ => trivial, keep a hy _, by rw [← Act.put_comm a v undef h2]; exact h.2⟩
def AllM (n : Nat) (P : Program) (md : Region.Mode) (ops : Array Oper) (Q : Exit → Act → World → Prop) (S : World → Prop) : Nat → Array Bool → Act → World → Prop
 | 0, listed, a, w => S w ∧ Region.ready md ops listed = [] ∧ Q .normal a w
 | fuel + 1, listed, a, w => S w ∧ (Region.ready md ops listed = [] → Q .normal a w) ∧
   ∀ i ∈ Region.ready md ops listed, wpOpIn Fence.wide n P ops Q i (AllM n P md ops Q S fuel (listed.setIfInBounds i true)) a w
theorem AllM.sound : ∀ (fuel : Nat) (listed : Array Bool) (a : Act) (w : World), AllM n P md ops Q S fuel listed a w → wpAnyIn Fence.wide n P md ops Q fuel listed a w
 | 0, _, _, _, h => ⟨h.2.1, h.2.2⟩
 | fuel + 1, _, _, _, h => ⟨h.2.1, fun i hi => wpOpIn_mono (AllM.sound fuel _) (h.2.2 i hi)⟩
theorem AllM.take {i : Nat} {oi : Oper} {v : Value} (hi : ops[i]? = some oi) (hsel : ∀ (j : Nat) (o : Oper) cs b, ops[j]? = some o → o.op ≠ .select cs b) (hdef : ∀ (j : Nat) (o : Oper) c, ops[j]? = some o → o.op ≠ .defer c)
  (hQ : ∀ c a a' w, a'.defers = a.defers → Q (.panic c) a w → Q (.panic c) a' w) :
  ∀ (fuel : Nat) (listed : Array Bool) (a : Act) (w : World),
   (∀ j oj, ops[j]? = some oj → j ≠ i → listed.getD j true = false → (∀ e ∈ oj.after, Region.binds md e = true → e.on ≠ i) → oi.apart ops oj = true) →
   i ∈ Region.ready md ops listed → PureAt P ops S oi v a →
   AllM n P md ops Q S fuel (listed.setIfInBounds i true) (a.put oi.dst v) w → AllM n P md ops Q S (fuel + 1) listed a w := by
 intro fuel
 induction fuel with
 | zero =>
  intro listed a w _ hr hy H
  refine ⟨H.1, fun h => (by rw [h] at hr; cases hr), fun j hj => ?_⟩
  by_cases hji : j = i
  ·subst hji; exact hy.wpOp hi (fun c => hdef j oi c hi) H.1 H
  ·have := ready_mono hj hji
   rw [H.2.1] at this
   cases this
 | succ fuel ih =>
  intro listed a w hfree hr hy H
  refine ⟨H.1, fun h => (by rw [h] at hr; cases hr), fun j hj => ?_⟩
  by_cases hji : j = i
  ·subst hji; exact hy.wpOp hi (fun c => hdef j oi c hi) H.1 H
  ·have hst := H.2.2 j (ready_mono hj hji)
   obtain ⟨hjun, oj, hoj, hall⟩ := mem_ready.1 hj
   have hnot : ∀ e ∈ oj.after, Region.binds md e = true → e.on ≠ i := fun e he hb heq => by
    have h1 := hall e he hb
    have h0 := (mem_ready.1 hr).1
    rw [heq] at h1
    rcases Nat.lt_or_ge i listed.size with h' | h'
    ·simp [h'] at h0 h1; rw [h0] at h1; cases h1
    ·simp [Array.getElem?_eq_none h'] at h1
   have hap := hfree j oj hoj hji hjun hnot
   have hfree' : ∀ k ok, ops[k]? = some ok → k ≠ i → (listed.setIfInBounds j true).getD k true = false →
     (∀ e ∈ ok.after, Region.binds md e = true → e.on ≠ i) → oi.apart ops ok = true := fun k ok hk hki hun hno => by
    refine hfree k ok hk hki ?_ hno
    by_cases hjk : j = k
    ·subst hjk; exact hjun
    ·rw [getD_set_ne true hjk] at hun; exact hun
   refine wpOpIn_mono (fun a' w' hq => ?_) (wpOpIn_over hoj hap (fun cs b => hsel i oi cs b hi) (fun cs b => hsel j oj cs b hoj) (fun c => hdef j oj c hoj) hQ hy hst)
   refine ih (listed.setIfInBounds j true) a' w' hfree' (ready_mono hr (Ne.symm hji)) hq.1 ?_
   rw [Array.setIfInBounds_comm _ _ hji]
   exact hq.2
end
section
variable {n : Nat} {P : Program} {N : Nat} {ds : List Deferred} {Q : Exit → Act → World → Prop} {Pn : List PanicEntry → World → Prop} {S : World → Prop}
def MixK (P : Program) (N : Nat) (Pn : List PanicEntry → World → Prop) (S : World → Prop) (ops : List Oper) : List (Nat × Bool) → Slots → World → (Slots → World → Prop) → Prop
 | [], l, w, K => K l w
 | (i, true) :: r, l, w, K => ∃ o, ops[i]? = some o ∧ plainG N o = true ∧ swant ops l o = some true ∧ sknow l o = true ∧ uponK P Pn (fun v w' => S w' ∧ MixK P N Pn S ops r (sput l o.dst v) w' K) ((execOp (slk l) o).run P w)
 | (i, false) :: r, l, w, K => ∃ o v, ops[i]? = some o ∧ plainG N o = true ∧ ((swant ops l o = some true ∧ sknow l o = true ∧ ∀ w, S w → PureRes v w ((execOp (slk l) o).run P w)) ∨ (swant ops l o = some false ∧ v = undef)) ∧ MixK P N Pn S ops r (sput l o.dst v) w K
def mixOk (md : Region.Mode) (ops : Array Oper) : List (Nat × Bool) → Array Bool → Bool
 | [], listed => (Region.ready md ops listed).isEmpty
 | (i, true) :: r, listed => (Region.ready md ops listed == [i]) && mixOk md ops r (listed.setIfInBounds i true)
 | (i, false) :: r, listed => (Region.ready md ops listed).contains i && (Region.free md ops listed i && mixOk md ops r (listed.setIfInBounds i true))
def noDef (ops : Array Oper) : Bool := ops.all fun o => match o.op with | .defer _ => false | _ => true
theorem noDef_spec {ops : Array Oper} (h : noDef ops = true) : ∀ (j : Nat) (o : Oper) c, ops[j]? = some o → o.op ≠ .defer c := by
 intro j o c hj e
 unfold noDef at h
 rw [Array.all_eq_true'] at h
 have := h o (Array.mem_of_getElem? hj)
 rw [e] at this
 cases this
theorem MixK.sound {md : Region.Mode} {ops : List Oper} (hs : Region.noSelect ops.toArray = true) (hd : noDef ops.toArray = true) (hQ : ∀ c a a' w, a'.defers = a.defers → Q (.panic c) a w → Q (.panic c) a' w) (hP : ∀ c a w, a.defers = ds → Pn c w → Q (.panic c) a w) :
  ∀ (ord : List (Nat × Bool)) (listed : Array Bool) (l : Slots) (a : Act) (w : World), mixOk md ops.toArray ord listed = true → Fr N ds l a → S w →
   MixK P N Pn S ops ord l w (fun l' w' => ∀ a', Fr N ds l' a' → Q .normal a' w') → AllM n P md ops.toArray Q S ord.length listed a w
 | [], listed, l, a, w, hok, hf, hS, h => ⟨hS, List.isEmpty_iff.1 hok, h a hf⟩
 | (i, true) :: r, listed, l, a, w, hok, hf, hS, h => by
  obtain ⟨o, ho, hp, hw, hk, hu⟩ := h
  simp only [mixOk, Bool.and_eq_true, beq_iff_eq] at hok
  obtain ⟨hr, hok⟩ := hok
  refine ⟨hS, fun h0 => (by rw [h0] at hr; cases hr), fun j hj => ?_⟩
  rw [hr] at hj
  obtain rfl := List.mem_singleton.1 hj
  unfold wpOpIn
  have ho' : ops.toArray[j]? = some o := by simpa using ho
  simp only [ho', hf.wanted hw, if_true, Oper.wpIn]
  refine ⟨fun f _ => trivial, ?_⟩
  rw [Oper.semAt_eq _ _ _ (plainG_defer hp), hf.exec hk (plainG_select hp)]
  unfold uponK at hu
  split at hu
  ·rename_i v w' hr'
   rw [hr']
   exact MixK.sound hs hd hQ hP r _ _ _ _ hok (hf.put o.dst (plainG_dst hp) v) hu.1 hu.2
  ·rename_i w' hr'
   rw [hr']
   exact MixK.sound hs hd hQ hP r _ _ _ _ hok (hf.put o.dst (plainG_dst hp) undef) hu.1 hu.2
  ·rename_i f args w' hr'
   rw [hr']
   refine ⟨fun hd => (by cases hd), callsIn_wide.2 (hu.mono ?_)⟩
   intro e w'' hq
   cases e with
   | returned v => exact MixK.sound hs hd hQ hP r _ _ _ _ hok (hf.put o.dst (plainG_dst hp) v) hq.1 hq.2
   | panicked c => exact hP c a w'' hf.defs hq
   | outgrown => exact hq.elim
  ·exact hu.elim
 | (i, false) :: r, listed, l, a, w, hok, hf, hS, h => by
  obtain ⟨o, v, ho, hp, hv, hr⟩ := h
  simp only [mixOk, Bool.and_eq_true] at hok
  obtain ⟨hrd, hfr, hok⟩ := hok
  have ho' : ops.toArray[i]? = some o := by simpa using ho
  refine AllM.take ho' (Region.noSelect_spec hs) (noDef_spec hd) hQ r.length listed a w (Region.free_spec ho' hfr) (by simpa using hrd) ?_ (MixK.sound hs hd hQ hP r _ _ _ _ hok (hf.put o.dst (plainG_dst hp) v) hS hr)
  rcases hv with ⟨hw, hk, hv⟩ | ⟨hw, rfl⟩
  ·refine .inl ⟨hf.wanted hw, ?_⟩
   rw [hf.exec hk (plainG_select hp)]
   exact hv
  ·exact .inr ⟨hf.wanted hw, rfl⟩
theorem wpIn_region_mix {id : Nat} {r : List Oper} {l : Slots} {a : Act} {w : World} (hm : P.follows .mixedOrders = true) (hf : Fr N ds l a) (ord : List (Nat × Bool)) (S : World → Prop) (hS : S { w with drawn := w.drawn + 1 }) (hlen : ord.length = r.length)
  (hok : mixOk .any r.toArray ord (Array.replicate r.toArray.size false) = true) (hs : Region.noSelect r.toArray = true) (hd : noDef r.toArray = true) (hQ : ∀ c a a' w, a'.defers = a.defers → Q (.panic c) a w → Q (.panic c) a' w)
  (h : ∀ (K : Slots → World → Prop) (Pn : List PanicEntry → World → Prop), (∀ l' w', (∀ a', Fr N ds l' a' → Q .normal a' w') → K l' w') → (∀ c w', (∀ a', a'.defers = ds → Q (.panic c) a' w') → Pn c w') → MixK P N Pn S r ord l { w with drawn := w.drawn + 1 } K) :
  (Code.region id r.toArray true).wpIn Fence.wide n P Q a w := by
 refine wpIn_region_any hm ?_
 have := AllM.sound _ _ _ _ (MixK.sound (n := n) (md := .any) (Pn := fun c w' => ∀ a', a'.defers = ds → Q (.panic c) a' w') hs hd hQ (fun _ a _ ha h => h a ha) ord (Array.replicate r.toArray.size false) l a _ hok hf hS (h _ _ (fun _ _ h => h) fun _ _ h => h))
 rw [hlen] at this
 simpa using this
theorem MixK.call {ops : List Oper} {i : Nat} {o : Oper} {r : List (Nat × Bool)} {l : Slots} {w : World} {K : Slots → World → Prop} (ho : ops[i]? = some o) (hp : plainG N o = true) (hw : swant ops l o = some true) (hk : sknow l o = true)
  (h : uponK P Pn (fun v w' => S w' ∧ MixK P N Pn S ops r (sput l o.dst v) w' K) ((execOp (slk l) o).run P w)) : MixK P N Pn S ops ((i, true) :: r) l w K := ⟨o, ho, hp, hw, hk, h⟩
theorem MixK.read {ops : List Oper} {i : Nat} {o : Oper} {r : List (Nat × Bool)} {l : Slots} {w : World} {K : Slots → World → Prop} (v : Value) (ho : ops[i]? = some o) (hp : plainG N o = true) (hw : swant ops l o = some true) (hk : sknow l o = true)
  (hv : ∀ w, S w → PureRes v w ((execOp (slk l) o).run P w)) (h : MixK P N Pn S ops r (sput l o.dst v) w K) : MixK P N Pn S ops ((i, false) :: r) l w K := ⟨o, v, ho, hp, .inl ⟨hw, hk, hv⟩, h⟩
theorem MixK.skip {ops : List Oper} {i : Nat} {o : Oper} {r : List (Nat × Bool)} {l : Slots} {w : World} {K : Slots → World → Prop} (ho : ops[i]? = some o) (hp : plainG N o = true) (hw : swant ops l o = some false)
  (h : MixK P N Pn S ops r (sput l o.dst undef) w K) : MixK P N Pn S ops ((i, false) :: r) l w K := ⟨o, undef, ho, hp, .inr ⟨hw, rfl⟩, h⟩
theorem MixK.nil {ops : List Oper} {l : Slots} {w : World} {K : Slots → World → Prop} (h : K l w) : MixK P N Pn S ops [] l w K := h
theorem PureRes_value {v u : Value} {w w' : World} : PureRes v w (.ok (.value u) w') = (u = v ∧ w' = w) := rfl
theorem PureRes_skip {v : Value} {w w' : World} : PureRes v w (.ok .skip w') = (v = undef ∧ w' = w) := rfl
end
end
end Go.Proofs.YtlhkeohcickiaaaGreatDoor.H
namespace Go.Proofs.YtlhkeohcickiaaaGreatDoor.E
open Go.RowKit Go.Proofs.YtlhkeohcickiaaaGreatDoorW.PrintWords Go.Proofs.YtlhkeohcickiaaaGreatDoorW.PrintLast Go.Proofs.YtlhkeohcickiaaaGreatDoorW.PrintMore
section
def chB (b : UInt8) : Bool := (decide (97 ≤ b.toNat) && decide (b.toNat ≤ 122)) || ((decide (48 ≤ b.toNat) && decide (b.toNat ≤ 57)) || decide (b.toNat = 45))
def nameB (s : ByteArray) : Bool := decide (1 ≤ s.size) && (decide (s.size ≤ 32) && (decide (97 ≤ bt s 0) && (decide (bt s 0 ≤ 122) && s.data.toList.all chB)))
def ltB (a b : ByteArray) : Bool := Op.bytesLess a.toList b.toList
def restB : Option ByteArray → List ByteArray → Bool
 | _, [] => true
 | p, x :: xs => nameB x && ((match p with | none => true | some y => ltB y x) && restB (some x) xs)
def risingB (l : List ByteArray) (most : Int) : Bool := restB none l && decide ((l.length : Int) ≤ most)
theorem wrap64_of {x : Int} (h0 : -9223372036854775808 ≤ x) (h1 : x ≤ 9223372036854775807) : wrap64 x = x := by
 unfold wrap64; omega
def cutset : List UInt8 := [97, 98, 99, 100, 101, 102, 103, 104, 105, 106, 107, 108, 109, 110, 111, 112, 113, 114, 115, 116, 117, 118, 119, 120, 121, 122, 48, 49, 50, 51, 52, 53, 54, 55, 56, 57, 45]
theorem cutset_ch (b : UInt8) : cutset.contains b = chB b := by
 have h : ∀ n : Fin 256, cutset.contains (UInt8.ofNat n.val) = chB (UInt8.ofNat n.val) := by decide +kernel
 have := h ⟨b.toNat, b.toNat_lt⟩
 simpa using this
theorem dropWhile_nil {p : UInt8 → Bool} : ∀ l : List UInt8, (l.dropWhile p = []) ↔ l.all p = true
 | [] => by simp
 | a :: l => by
  by_cases h : p a = true
  ·simp [h, dropWhile_nil l]
  ·simp [h]
theorem dropWhile_head {p : UInt8 → Bool} {a : UInt8} {t : List UInt8} : ∀ l : List UInt8, l.dropWhile p = a :: t → p a = false
 | [], h => by simp at h
 | b :: l, h => by
  by_cases hb : p b = true
  ·rw [List.dropWhile_cons, if_pos hb] at h; exact dropWhile_head l h
  ·rw [List.dropWhile_cons, if_neg hb] at h
   injection h with h1 h2
   subst h1
   simpa using hb
theorem trim_nil (l cs : List UInt8) : ((Lib.trimS l cs) == ([] : List UInt8)) = l.all (cs.contains ·) := by
 have h1 : Lib.trimS l cs = [] ↔ l.all (cs.contains ·) = true := by
  unfold Lib.trimS Lib.trimLeftS Lib.trimRightS
  constructor
  ·intro h
   rw [dropWhile_nil] at h
   cases hd : l.reverse.dropWhile (cs.contains ·) with
   | nil =>
    rw [dropWhile_nil] at hd
    simpa using hd
   | cons a t =>
    rw [hd] at h
    have ha : (cs.contains a) = false := dropWhile_head (p := (cs.contains ·)) _ hd
    simp at h
    have := h.2
    simp at ha
    exact absurd this ha
  ·intro h
   have : l.reverse.dropWhile (cs.contains ·) = [] := by rw [dropWhile_nil]; simpa using h
   rw [this]; rfl
 by_cases h : l.all (cs.contains ·) = true
 ·rw [h, h1.2 h]; rfl
 ·have : ¬ Lib.trimS l cs = [] := fun e => h (h1.1 e)
  rw [Bool.eq_false_iff.2 h]
  cases hh : Lib.trimS l cs with
  | nil => exact absurd hh this
  | cons a t => rfl
theorem named_eq (s : ByteArray) : protest_named.f s = some (nameB s) := by
 unfold protest_named.f protest_within.f nameB
 by_cases h1 : (1 : Int) ≤ (s.size : Int)
 ·rw [if_pos h1]
  have h1' : decide (1 ≤ s.size) = true := decide_eq_true (by omega)
  rw [h1']
  simp only [Option.bind_some, Bool.true_and]
  by_cases h2 : (s.size : Int) ≤ 32
  ·have h2' : decide (s.size ≤ 32) = true := decide_eq_true (by omega)
   rw [h2', if_pos (by simpa using h2), if_pos (by omega)]
   simp only [Bool.true_and]
   by_cases h3 : bt s 0 < 97
   ·rw [if_pos h3]
    have : decide (97 ≤ bt s 0) = false := decide_eq_false (by omega)
    rw [this]; rfl
   ·have h3' : decide (97 ≤ bt s 0) = true := decide_eq_true (by omega)
    rw [if_neg h3, h3']
    by_cases h4 : bt s 0 > 122
    ·rw [if_pos h4]
     have : decide (bt s 0 ≤ 122) = false := decide_eq_false (by omega)
     rw [this]; rfl
    ·have h4' : decide (bt s 0 ≤ 122) = true := decide_eq_true (by omega)
     rw [if_neg h4, h4']
     have hf : strings_Trim.f s (⟨#[97, 98, 99, 100, 101, 102, 103, 104, 105, 106, 107, 108, 109, 110, 111, 112, 113, 114, 115, 116, 117, 118, 119, 120, 121, 122, 48, 49, 50, 51, 52, 53, 54, 55, 56, 57, 45]⟩ : ByteArray) = some ⟨(Lib.trimS s.data.toList cutset).toArray⟩ := by
      unfold strings_Trim.f
      rw [if_pos ⟨by omega, by decide, by decide⟩]
      rfl
     rw [hf]
     simp only [Option.bind_some, Bool.true_and, Option.some.injEq]
     have ht : (⟨(Lib.trimS s.data.toList cutset).toArray⟩ : ByteArray).toList = Lib.trimS s.data.toList cutset := by simp [Lib.toList_data]
     rw [ht, trim_nil]
     congr 1
     funext b
     exact cutset_ch b
  ·have h2' : decide (s.size ≤ 32) = false := decide_eq_false (by omega)
   rw [h2', if_neg (by simpa using h2)]
   rfl
 ·rw [if_neg h1]
  have : decide (1 ≤ s.size) = false := decide_eq_false (by omega)
  rw [this]
  rfl
theorem ch_bt (s : ByteArray) (i : Nat) (h : i < s.size) : bt s (i : Int) = (s.data.toList[i]'(by simpa using h)).toNat := by
 unfold bt
 rw [dif_pos (by simpa using h)]
 simp
 rfl
theorem Name_loop (s : ByteArray) (hs : s.size ≤ 9223372036854775806) : ∀ (d k i : Nat), i ≤ s.size → s.size - i = d → d < k → besomref09_Name.l0 k s (i : Int) = some ((s.data.toList.drop i).all chB) := by
  intro d
  induction d with
  | zero =>
    intro k i h1 h2 h3
    obtain ⟨k, rfl⟩ : ∃ m, k = m + 1 := ⟨k - 1, by omega⟩
    simp only [besomref09_Name.l0]
    rw [if_neg (by omega), List.drop_of_length_le (by simp; omega)]
    rfl
  | succ d ih =>
    intro k i h1 h2 h3
    obtain ⟨k, rfl⟩ : ∃ m, k = m + 1 := ⟨k - 1, by omega⟩
    have hi : i < s.size := by omega
    have hl : i < s.data.toList.length := by simpa using hi
    have hn := ih k (i + 1) (by omega) (by omega) (by omega)
    have hw : wrap64 ((i : Int) + 1) = ((i + 1 : Nat) : Int) := by rw [wrap64_of (by omega) (by omega)]; omega
    simp only [besomref09_Name.l0]
    rw [if_pos (by omega), if_pos (by omega), hw, hn, ch_bt s i hi, List.drop_eq_getElem_cons hl]
    simp only [List.all_cons]
    generalize s.data.toList[i] = b
    generalize (List.drop (i + 1) s.data.toList).all chB = r
    unfold chB
    have e1 : ∀ n : Nat, ((b.toNat : Int) < (n : Int)) = (b.toNat < n) := fun n => by simp
    by_cases a1 : b.toNat < 97 <;> by_cases a2 : b.toNat < 48 <;> by_cases a3 : b.toNat = 45 <;> by_cases a4 : b.toNat > 57 <;> by_cases a5 : b.toNat > 122 <;>
      first
        | omega
        | (simp only [show ((b.toNat : Int) < 97) = (b.toNat < 97) from propext (by omega), show ((b.toNat : Int) < 48) = (b.toNat < 48) from propext (by omega), show ((b.toNat : Int) = 45) = (b.toNat = 45) from propext (by omega), show ((b.toNat : Int) > 57) = (b.toNat > 57) from propext (by omega), show ((b.toNat : Int) > 122) = (b.toNat > 122) from propext (by omega), a1, a2, a3, a4, a5, if_true, if_false, decide_true, decide_false]
           simp
           try omega)
theorem Name_eq (s : ByteArray) (k : Nat) (hk : 40 ≤ k) : besomref09_Name.f k s = some (nameB s) := by
 unfold besomref09_Name.f besomref09_in.f besomref02_In.f nameB
 obtain ⟨k, rfl⟩ : ∃ m, k = m + 1 := ⟨k - 1, by omega⟩
 by_cases h1 : (1 : Int) ≤ (s.size : Int)
 ·rw [if_pos h1]
  have h1' : decide (1 ≤ s.size) = true := decide_eq_true (by omega)
  rw [h1']
  simp only [Option.bind_some, Bool.true_and]
  by_cases h2 : (s.size : Int) ≤ 32
  ·have h2' : decide (s.size ≤ 32) = true := decide_eq_true (by omega)
   rw [h2', if_pos (by simpa using h2), if_pos (by omega)]
   simp only [Bool.true_and]
   have hloop := Name_loop s (by omega) s.size k 0 (by omega) (by omega) (by omega)
   simp only [List.drop_zero] at hloop
   by_cases h3 : bt s 0 < 97
   ·have : decide (97 ≤ bt s 0) = false := decide_eq_false (by omega)
    rw [if_pos h3, this]; simp [besomref09_Name.j0]
   ·have h3' : decide (97 ≤ bt s 0) = true := decide_eq_true (by omega)
    rw [if_neg h3, h3']
    by_cases h4 : bt s 0 > 122
    ·have : decide (bt s 0 ≤ 122) = false := decide_eq_false (by omega)
     rw [this]; simp [besomref09_Name.j0, h4]
    ·have h4' : decide (bt s 0 ≤ 122) = true := decide_eq_true (by omega)
     rw [h4']
     have : decide (bt s 0 > 122) = false := decide_eq_false (by omega)
     rw [this]
     simp only [besomref09_Name.j0, Bool.true_and]
     rw [if_neg (by simp)]
     exact hloop
  ·have h2' : decide (s.size ≤ 32) = false := decide_eq_false (by omega)
   rw [h2', if_neg (by simpa using h2)]
   simp [besomref09_Name.j0]
 ·rw [if_neg h1]
  have : decide (1 ≤ s.size) = false := decide_eq_false (by omega)
  rw [this]
  simp [besomref09_Name.j0]
def prevOf (l : List ByteArray) (i : Nat) : Option ByteArray := if i = 0 then none else some (l.getD (i - 1) ByteArray.empty)
theorem rdOf_nat (l : List ByteArray) (i : Nat) : rdOf ByteArray.empty l (i : Int) = l.getD i ByteArray.empty := by simp [rdOf]
theorem rising_loop (l : List ByteArray) (m : Int) (hl : l.length ≤ 9223372036854775807) : ∀ (d k i : Nat), i ≤ l.length → l.length - i = d → d < k →
  protest_rising.l0 k l m l (l.length : Int) (i : Int) = some (restB (prevOf l i) (l.drop i) && decide ((l.length : Int) ≤ m)) := by
 intro d
 induction d with
 | zero =>
  intro k i h1 h2 h3
  obtain ⟨k, rfl⟩ : ∃ m, k = m + 1 := ⟨k - 1, by omega⟩
  simp only [protest_rising.l0]
  rw [if_neg (by omega), List.drop_of_length_le (by omega)]
  rfl
 | succ d ih =>
  intro k i h1 h2 h3
  obtain ⟨k, rfl⟩ : ∃ m, k = m + 1 := ⟨k - 1, by omega⟩
  have hi : i < l.length := by omega
  have hn := ih k (i + 1) (by omega) (by omega) (by omega)
  have hw : wrap64 ((i : Int) + 1) = ((i + 1 : Nat) : Int) := by rw [wrap64_of (by omega) (by omega)]; omega
  have hg : l.getD i ByteArray.empty = l[i] := by simp [List.getD_eq_getElem?_getD, List.getElem?_eq_getElem hi]
  have hp : prevOf l (i + 1) = some l[i] := by simp only [prevOf]; rw [if_neg (by omega), Nat.add_sub_cancel, hg]
  simp only [protest_rising.l0]
  rw [if_pos (by omega), if_pos (by omega), if_pos (by omega), hw, hn, rdOf_nat, hg, named_eq, List.drop_eq_getElem_cons hi, hp]
  simp only [Option.bind_some, restB]
  by_cases hnm : nameB l[i] = true
  ·rw [if_pos hnm, hnm]
   by_cases h0 : i = 0
   ·subst h0
    rw [if_neg (by omega)]
    simp [prevOf]
   ·have hw2 : wrap64 ((i : Int) - 1) = ((i - 1 : Nat) : Int) := by rw [wrap64_of (by omega) (by omega)]; omega
    rw [if_pos (by omega), hw2, if_pos (by omega), if_pos (by omega), rdOf_nat]
    simp only [prevOf, if_neg h0, ltB, Bool.true_and]
    split
    ·rename_i hb; rw [hb]; simp only [Bool.true_and]
    ·rename_i hb; rw [Bool.eq_false_iff.2 hb]; simp only [Bool.false_and]
  ·rw [if_neg hnm]
   simp [Bool.eq_false_iff.2 hnm]
theorem rising_eq (l : List ByteArray) (m : Int) (hl : l.length ≤ 9223372036854775807) : protest_rising.f (l.length + 1) l m = some (risingB l m) := by
 have := rising_loop l m hl l.length (l.length + 1) 0 (by omega) (by omega) (by omega)
 simpa [protest_rising.f, risingB, prevOf] using this
theorem names_loop (l : List ByteArray) (m : Int) (hl : l.length ≤ 9223372036854775807) : ∀ (d k i : Nat), i ≤ l.length → l.length - i = d → d + 40 < k →
  besomref09_names.l0 k l m (i : Int) = some (restB (prevOf l i) (l.drop i) && decide ((l.length : Int) ≤ m)) := by
 intro d
 induction d with
 | zero =>
  intro k i h1 h2 h3
  obtain ⟨k, rfl⟩ : ∃ m, k = m + 1 := ⟨k - 1, by omega⟩
  simp only [besomref09_names.l0]
  rw [if_neg (by omega), List.drop_of_length_le (by omega)]
  rfl
 | succ d ih =>
  intro k i h1 h2 h3
  obtain ⟨k, rfl⟩ : ∃ m, k = m + 1 := ⟨k - 1, by omega⟩
  have hi : i < l.length := by omega
  have hn := ih k (i + 1) (by omega) (by omega) (by omega)
  have hw : wrap64 ((i : Int) + 1) = ((i + 1 : Nat) : Int) := by rw [wrap64_of (by omega) (by omega)]; omega
  have hg : l.getD i ByteArray.empty = l[i] := by simp [List.getD_eq_getElem?_getD, List.getElem?_eq_getElem hi]
  have hp : prevOf l (i + 1) = some l[i] := by simp only [prevOf]; rw [if_neg (by omega), Nat.add_sub_cancel, hg]
  simp only [besomref09_names.l0]
  rw [if_pos (by omega), if_pos (by omega), hw, hn, rdOf_nat, hg, Name_eq _ _ (by omega), List.drop_eq_getElem_cons hi, hp]
  simp only [Option.bind_some, restB]
  by_cases hnm : nameB l[i] = true
  ·rw [if_pos hnm, hnm]
   by_cases h0 : i = 0
   ·subst h0
    rw [if_neg (by omega)]
    simp [prevOf]
   ·have hw2 : wrap64 ((i : Int) - 1) = ((i - 1 : Nat) : Int) := by rw [wrap64_of (by omega) (by omega)]; omega
    rw [if_pos (by omega), hw2, if_pos (by omega), if_pos (by omega), rdOf_nat]
    simp only [prevOf, if_neg h0, ltB, Bool.true_and]
    split
    ·rename_i hb; rw [hb]; simp only [Bool.true_and]
    ·rename_i hb; rw [Bool.eq_false_iff.2 hb]; simp only [Bool.false_and]
  ·rw [if_neg hnm]
   simp [Bool.eq_false_iff.2 hnm]
theorem names_eq (l : List ByteArray) (m : Int) (k : Nat) (hl : l.length ≤ 9223372036854775807) (hk : l.length + 40 < k) : besomref09_names.f k l m = some (risingB l m) := by
 have := names_loop l m hl l.length k 0 (by omega) (by omega) (by omega)
 simpa [besomref09_names.f, risingB, prevOf] using this
end
end Go.Proofs.YtlhkeohcickiaaaGreatDoor.E
namespace Go.Proofs.YtlhkeohcickiaaaGreatDoor.H
open Go.RowKit
section
section
variable {κ : Type} [DecidableEq κ]
def ents (enc : κ → Value) (m : List (κ × Value)) : Array MapEntry := (m.mapIdx fun i p => { key := enc p.1, val := p.2, born := i : MapEntry }).toArray
def MapAt (enc : κ → Value) (W : World) (r : Nat) (m : List (κ × Value)) : Prop := W.heap[r]? = some (.map (ents enc m) m.length)
def mget : List (κ × Value) → κ → Option Value
 | [], _ => none
 | (y, v) :: l, x => if x = y then some v else mget l x
def mput : List (κ × Value) → κ → Value → List (κ × Value)
 | [], x, v => [(x, v)]
 | (y, u) :: l, x, v => if x = y then (y, v) :: l else (y, u) :: mput l x v
def place : List (κ × Value) → κ → Nat
 | [], _ => 0
 | (y, _) :: l, x => if x = y then 0 else place l x + 1
theorem mget_none {m : List (κ × Value)} {x : κ} (h : mget m x = none) : place m x = m.length ∧ ∀ v, mput m x v = m ++ [(x, v)] := by
 induction m with
 | nil => simp [place, mput]
 | cons p l ih =>
  obtain ⟨y, v⟩ := p
  unfold mget at h
  split at h
  ·cases h
  ·rename_i hne
   obtain ⟨h1, h2⟩ := ih h
   exact ⟨by simp [place, hne, h1], fun u => by simp [mput, hne, h2]⟩
theorem mget_some {m : List (κ × Value)} {x : κ} {v : Value} (h : mget m x = some v) : place m x < m.length ∧ m[place m x]? = some (x, v) ∧ ∀ u, mput m x u = m.set (place m x) (x, u) := by
 induction m with
 | nil => simp [mget] at h
 | cons p l ih =>
  obtain ⟨y, u⟩ := p
  unfold mget at h
  split at h
  ·rename_i e; subst e; injection h with h; subst h
   exact ⟨by simp [place], by simp [place], fun u => by simp [mput, place]⟩
  ·rename_i hne
   obtain ⟨h1, h2, h3⟩ := ih h
   exact ⟨by simp [place, hne]; omega, by simpa [place, hne] using h2, fun u => by simp [mput, place, hne, h3]⟩
theorem mput_length (m : List (κ × Value)) (x : κ) (v : Value) : (mput m x v).length = if (mget m x).isSome then m.length else m.length + 1 := by
 cases h : mget m x with
 | none => simp [(mget_none h).2 v]
 | some u => simp [(mget_some h).2.2 v]
theorem mget_mput_same (m : List (κ × Value)) (x : κ) (v : Value) : mget (mput m x v) x = some v := by
 induction m with
 | nil => simp [mput, mget]
 | cons p l ih =>
  obtain ⟨y, u⟩ := p
  by_cases h : x = y
  ·simp [mput, mget, h]
  ·simp [mput, mget, h, ih]
theorem mget_mput_other (m : List (κ × Value)) {x z : κ} (v : Value) (h : z ≠ x) : mget (mput m x v) z = mget m z := by
 induction m with
 | nil => simp [mput, mget, h]
 | cons p l ih =>
  obtain ⟨y, u⟩ := p
  by_cases hx : x = y
  ·subst hx; simp [mput, mget, h]
  ·by_cases hz : z = y
   ·simp [mput, mget, hx, hz]
   ·simp [mput, mget, hx, hz, ih]
theorem ents_size (enc : κ → Value) (m : List (κ × Value)) : (ents enc m).size = m.length := by simp [ents]
theorem ents_snoc (enc : κ → Value) (m : List (κ × Value)) (x : κ) (v : Value) : ents enc (m ++ [(x, v)]) = (ents enc m).push { key := enc x, val := v, born := m.length } := by
 simp [ents, List.mapIdx_append]
theorem ents_get (enc : κ → Value) (m : List (κ × Value)) (i : Nat) : (ents enc m)[i]? = m[i]?.map fun p => { key := enc p.1, val := p.2, born := i } := by
 simp [ents]
theorem ents_set (enc : κ → Value) (m : List (κ × Value)) (i : Nat) (x : κ) (v : Value) (f : MapEntry → MapEntry) (hf : ∀ e, (ents enc m)[i]? = some e → f e = { key := enc x, val := v, born := i }) (hi : i < m.length) : (ents enc m).modify i f = ents enc (m.set i (x, v)) := by
 apply Array.ext_getElem?
 intro j
 rw [Array.getElem?_modify, ents_get, ents_get, List.getElem?_set]
 by_cases e : i = j
 ·subst e
  simp only [if_true]
  have h1 : m[i]? = some m[i] := List.getElem?_eq_getElem hi
  have := hf _ (by rw [ents_get, h1]; rfl)
  rw [h1]
  simp only [Option.map_some, hi, if_true]
  rw [this]
 ·simp [e]
structure KeyKind (enc : κ → Value) (d : TypeDesc) : Prop where
 same : ∀ a b, Instr.sameNow d (enc a) (enc b) = some (decide (a = b))
 bits : ∀ a, Instr.sameBits 10000 (enc a) (enc a) = true
 plain : ∀ (e : Bool) (n : Nat) (t : TypeId) (P : Program) (a : κ) (w : World), P.underlying t = some d → (Instr.checkKey e (n + 1) t (enc a)).run P w = .ok () w
theorem List.set_getElem_self_of {α : Type} {l : List α} {i : Nat} {a : α} (h : l[i]? = some a) : l.set i a = l := by
 apply List.ext_getElem?
 intro j
 rw [List.getElem?_set]
 split
 ·rename_i e; subst e
  have := (List.getElem?_eq_some_iff.1 h).1
  rw [List.getElem?_eq_getElem this] at h
  simpa [this] using h.symm
 ·rfl
theorem findNow_ents {enc : κ → Value} {d : TypeDesc} (hk : KeyKind enc d) (x : κ) : ∀ (m : List (κ × Value)) (i : Nat) (es : List MapEntry), es.map (fun e => (e.key, e.val)) = m.map (fun p => (enc p.1, p.2)) →
  Instr.findNow d (enc x) es i = some ((mget m x).map fun v => (i + place m x, v)) := by
 intro m
 induction m with
 | nil => intro i es h; simp at h; subst h; simp [Instr.findNow, mget]
 | cons p l ih =>
  intro i es h
  obtain ⟨y, v⟩ := p
  cases es with
  | nil => simp at h
  | cons e es =>
   simp only [List.map_cons, List.cons.injEq, Prod.mk.injEq] at h
   obtain ⟨⟨h1, h2⟩, h3⟩ := h
   unfold Instr.findNow
   rw [h1, hk.same]
   by_cases hx : x = y
   ·simp [hx, mget, place, h2]
   ·simp only [hx, decide_false]
    rw [ih (i + 1) es h3]
    simp [mget, place, hx, Nat.add_assoc, Nat.add_comm 1]
theorem findNow_at {enc : κ → Value} {d : TypeDesc} (hk : KeyKind enc d) (x : κ) (m : List (κ × Value)) : Instr.findNow d (enc x) (ents enc m).toList 0 = some ((mget m x).map fun v => (place m x, v)) := by
 have := findNow_ents hk x m 0 (ents enc m).toList (by
  apply List.ext_getElem?
  intro j
  simp only [List.getElem?_map, Array.getElem?_toList, ents_get]
  cases m[j]? <;> rfl)
 simpa using this
variable {P : Program} {enc : κ → Value} {d : TypeDesc} {T K E : TypeId} {W : World} {r : Nat} {m : List (κ × Value)}
theorem MapAt.out {enc : κ → Value} {W : World} {r : Nat} {m : List (κ × Value)} (h : MapAt enc W r m) : W.heap[r]? = some (.map (ents enc m) m.length) := h
theorem run_lookup_at (hk : KeyKind enc d) (hT : P.underlying T = some (.map K E)) (hK : P.underlying K = some d) (h : MapAt enc W r m) {z : Value} (hz : ∀ w, (zeroValue E).run P w = .ok z w) (x : κ) :
  (Instr.lookup T (.map (some r)) (enc x) false).run P W = .ok ((mget m x).getD z) W := by
 have h1 : (getObj r).run P W = .ok (.map (ents enc m) m.length) W := by simp [getObj, Sem.run, h.out]
 have hu : ∀ w, (underlying T).run P w = .ok (.map K E) w := run_underlying hT
 have hu2 : ∀ w, (underlying K).run P w = .ok d w := run_underlying hK
 have hc := fun w => hk.plain (ents enc m).isEmpty 9999 K P x w hK
 have hf : ∀ w, (Instr.findKey K (enc x) (ents enc m).toList).run P w = .ok ((mget m x).map fun v => (place m x, v)) w := by
  intro w
  unfold Instr.findKey
  simp only [Sem.run_bind, hu2, Result.andThen, findNow_at hk]
  rfl
 unfold Instr.lookup
 simp only [Sem.run_bind, hu, Result.andThen]
 simp only [Sem.run_bind, h1, Result.andThen, Sem.run_pure, hc, hf]
 cases mget m x with
 | none => simp [hz, Result.andThen]
 | some v => simp [Result.andThen]
theorem run_lookup_ok_at (hk : KeyKind enc d) (hT : P.underlying T = some (.map K E)) (hK : P.underlying K = some d) (h : MapAt enc W r m) {z : Value} (hz : ∀ w, (zeroValue E).run P w = .ok z w) (x : κ) :
  (Instr.lookup T (.map (some r)) (enc x) true).run P W = .ok (.tuple #[(mget m x).getD z, .bool (mget m x).isSome]) W := by
 have h1 : (getObj r).run P W = .ok (.map (ents enc m) m.length) W := by simp [getObj, Sem.run, h.out]
 have hu : ∀ w, (underlying T).run P w = .ok (.map K E) w := run_underlying hT
 have hu2 : ∀ w, (underlying K).run P w = .ok d w := run_underlying hK
 have hc := fun w => hk.plain (ents enc m).isEmpty 9999 K P x w hK
 have hf : ∀ w, (Instr.findKey K (enc x) (ents enc m).toList).run P w = .ok ((mget m x).map fun v => (place m x, v)) w := by
  intro w
  unfold Instr.findKey
  simp only [Sem.run_bind, hu2, Result.andThen, findNow_at hk]
  rfl
 unfold Instr.lookup
 simp only [Sem.run_bind, hu, Result.andThen]
 simp only [Sem.run_bind, h1, Result.andThen, Sem.run_pure, hc, hf]
 cases mget m x with
 | none => simp [hz, Result.andThen]
 | some v => simp [Result.andThen]
def putMap (enc : κ → Value) (W : World) (r : Nat) (m : List (κ × Value)) : World := { W with heap := W.heap.setIfInBounds r (.map (ents enc m) m.length) }
theorem run_setMap (h : MapAt enc W r m) (m' : List (κ × Value)) : (setObj r (.map (ents enc m') m'.length)).run P W = .ok () (putMap enc W r m') := by
 simp [setObj, Sem.run, h.out, putMap]
theorem MapAt.lt (h : MapAt enc W r m) : r < W.heap.size := (Array.getElem?_eq_some_iff.1 h.out).1
theorem MapAt.put (h : MapAt enc W r m) (m' : List (κ × Value)) : MapAt enc (putMap enc W r m') r m' := by
 simp [MapAt, putMap, h.lt]
def entered (m : List (κ × Value)) (x : κ) (z : Value) : List (κ × Value) := if (mget m x).isSome then m else m ++ [(x, z)]
theorem run_mapEntry_at (hk : KeyKind enc d) (hT : P.underlying T = some (.map K E)) (hK : P.underlying K = some d) (h : MapAt enc W r m) {z : Value} (hz : ∀ w, (zeroValue E).run P w = .ok z w) (x : κ) :
  (Instr.mapEntry T (.map (some r)) (enc x)).run P W = .ok (.tuple #[(mget m x).getD z, .int .i64 (place m x : Nat)]) (putMap enc W r (entered m x z)) := by
 have h1 : (getObj r).run P W = .ok (.map (ents enc m) m.length) W := by simp [getObj, Sem.run, h.out]
 have hu : ∀ w, (underlying T).run P w = .ok (.map K E) w := run_underlying hT
 have hu2 : ∀ w, (underlying K).run P w = .ok d w := run_underlying hK
 have hc := fun w => hk.plain false 9999 K P x w hK
 have hf : ∀ w, (Instr.findKey K (enc x) (ents enc m).toList).run P w = .ok ((mget m x).map fun v => (place m x, v)) w := by
  intro w
  unfold Instr.findKey
  simp only [Sem.run_bind, hu2, Result.andThen, findNow_at hk]
  rfl
 unfold Instr.mapEntry
 simp only [Sem.run_bind, hu, Result.andThen]
 simp only [Sem.run_bind, h1, Result.andThen, Sem.run_pure, hc, hf]
 cases hl : mget m x with
 | none =>
  obtain ⟨hp, _⟩ := mget_none hl
  have he : entered m x z = m ++ [(x, z)] := by simp [entered, hl]
  have hs := run_setMap (P := P) h (m ++ [(x, z)])
  simp only [List.length_append, List.length_singleton] at hs
  rw [ents_snoc] at hs
  simp [Result.andThen, hz, he, hs, hp, goInt]
 | some v =>
  obtain ⟨h2, h3, _⟩ := mget_some hl
  have he : entered m x z = m := by simp [entered, hl]
  have hg : (ents enc m)[place m x]? = some { key := enc x, val := v, born := place m x } := by rw [ents_get, h3]; rfl
  have hst : ∀ w, (Instr.keyThatStays (enc x) (enc x)).run P w = .ok (enc x) w := fun w => by
   unfold Instr.keyThatStays; simp [hk.bits]
  have hm : (ents enc m).modify (place m x) (fun e => { e with key := enc x }) = ents enc m := by
   rw [ents_set enc m (place m x) x v _ (fun e he => by rw [hg] at he; injection he with he; subst he; rfl) h2]
   rw [List.set_getElem_self_of h3]
  have hs := run_setMap (P := P) h m
  simp [Result.andThen, he, hg, hst, hm, hs, goInt]
theorem entered_at (m : List (κ × Value)) (x : κ) (z : Value) : (entered m x z)[place m x]? = some (x, (mget m x).getD z) := by
 unfold entered
 cases hl : mget m x with
 | none => simp [(mget_none hl).1]
 | some v => simpa using (mget_some hl).2.1
theorem entered_set (m : List (κ × Value)) (x : κ) (z v : Value) : (entered m x z).set (place m x) (x, v) = mput m x v := by
 unfold entered
 cases hl : mget m x with
 | none => simp [(mget_none hl).1, (mget_none hl).2 v]
 | some u => simp [(mget_some hl).2.2 v]
theorem findIdx_ents (enc : κ → Value) (m : List (κ × Value)) (i : Nat) (hi : i < m.length) : (ents enc m).findIdx? (fun e => (e.born : Int) == (i : Int)) = some i := by
 rw [Array.findIdx?_eq_some_iff_getElem]
 refine ⟨by simpa [ents_size] using hi, ?_, ?_⟩
 ·simp [ents]
 ·intro j hj
  simp [ents]
  omega
theorem run_entryStore_at (h : MapAt enc W r m) {i : Nat} {x : κ} {u : Value} (hi : m[i]? = some (x, u)) (v : Value) :
  (Instr.entryStore T (.map (some r)) (.int .i64 (i : Nat)) v).run P W = .ok () (putMap enc W r (m.set i (x, v))) := by
 have h1 : (getObj r).run P W = .ok (.map (ents enc m) m.length) W := by simp [getObj, Sem.run, h.out]
 have hlt : i < m.length := (List.getElem?_eq_some_iff.1 hi).1
 have hg : (ents enc m)[i]? = some { key := enc x, val := u, born := i } := by rw [ents_get, hi]; rfl
 have hm : (ents enc m).modify i (fun e => { e with val := v }) = ents enc (m.set i (x, v)) :=
  ents_set enc m i x v _ (fun e he => by rw [hg] at he; injection he with he; subst he; rfl) hlt
 have hs := run_setMap (P := P) h (m.set i (x, v))
 unfold Instr.entryStore
 simp only [Sem.run_bind, h1, Result.andThen]
 have ha : ∀ w, (asInt (.int .i64 (i : Nat))).run P w = .ok (i : Int) w := fun w => by simp [asInt, asIntOf, go_sem]
 simp only [Sem.run_bind, ha, Result.andThen, findIdx_ents enc m i hlt]
 rw [hm]
 simpa using hs
theorem run_entryStore_entered {W' : World} {x₀ : κ} {z₀ : Value} (h : MapAt enc W' r (entered m x₀ z₀)) (v : Value) :
  (Instr.entryStore T (.map (some r)) (.int .i64 (place m x₀ : Nat)) v).run P W' = .ok () (putMap enc W' r (mput m x₀ v)) := by
 rw [run_entryStore_at h (entered_at m x₀ z₀) v, entered_set]
theorem run_mapUpdate_at (hk : KeyKind enc d) (hT : P.underlying T = some (.map K E)) (hK : P.underlying K = some d) (h : MapAt enc W r m) (x : κ) (v : Value) :
  (Instr.mapUpdate T (.map (some r)) (enc x) v).run P W = .ok () (putMap enc W r (mput m x v)) := by
 have h1 : (getObj r).run P W = .ok (.map (ents enc m) m.length) W := by simp [getObj, Sem.run, h.out]
 have hu : ∀ w, (underlying T).run P w = .ok (.map K E) w := run_underlying hT
 have hu2 : ∀ w, (underlying K).run P w = .ok d w := run_underlying hK
 have hc := fun w => hk.plain false 9999 K P x w hK
 have hf : ∀ w, (Instr.findKey K (enc x) (ents enc m).toList).run P w = .ok ((mget m x).map fun v => (place m x, v)) w := by
  intro w
  unfold Instr.findKey
  simp only [Sem.run_bind, hu2, Result.andThen, findNow_at hk]
  rfl
 unfold Instr.mapUpdate
 simp only [Sem.run_bind, hu, Result.andThen]
 simp only [Sem.run_bind, h1, Result.andThen, Sem.run_pure, hc, hf]
 cases hl : mget m x with
 | none =>
  have hs := run_setMap (P := P) h (m ++ [(x, v)])
  simp only [List.length_append, List.length_singleton] at hs
  rw [ents_snoc] at hs
  simp [Result.andThen, hs, (mget_none hl).2 v]
 | some u =>
  obtain ⟨h2, h3, h4⟩ := mget_some hl
  have hg : (ents enc m)[place m x]? = some { key := enc x, val := u, born := place m x } := by rw [ents_get, h3]; rfl
  have hst : ∀ w, (Instr.keyThatStays (enc x) (enc x)).run P w = .ok (enc x) w := fun w => by
   unfold Instr.keyThatStays; simp [hk.bits]
  have hm : (ents enc m).modify (place m x) (fun e => { e with key := enc x, val := v }) = ents enc (m.set (place m x) (x, v)) :=
   ents_set enc m (place m x) x v _ (fun e he => by rw [hg] at he; injection he with he; subst he; rfl) h2
  have hs := run_setMap (P := P) h (m.set (place m x) (x, v))
  simp only [List.length_set] at hs
  simp [Result.andThen, hg, hst, hm, hs, h4 v]
theorem MapAt.of_heap {W' : World} (h : MapAt enc W r m) (e : W'.heap[r]? = W.heap[r]?) : MapAt enc W' r m := by unfold MapAt; rw [e]; exact h
theorem MapAt.below {W' : World} {B : Nat} (h : MapAt enc W r m) (hb : Below B W W') (hr : r < B) : MapAt enc W' r m := h.of_heap (hb.block r hr)
theorem MapAt.alloc (h : MapAt enc W r m) (o : Obj) : MapAt enc (W.alloc o) r m := h.of_heap (Below.heap_alloc W o r h.lt)
theorem MapAt.drew (h : MapAt enc W r m) : MapAt enc W.drew r m := h
theorem MapAt.drewN (h : MapAt enc W r m) (n : Nat) : MapAt enc (W.drewN n) r m := h
theorem MapAt.setCell (h : MapAt enc W r m) {a : Addr} {v u : Value} (ha : W.cell? a = some u) : MapAt enc (W.setCell a v) r m := by
 refine h.of_heap (Below.heap_setCell W a v r ?_)
 rintro rfl
 have := h.out
 unfold World.cell? at ha
 rw [this] at ha
 cases ha
theorem putMap_heap_other {k : Nat} (m' : List (κ × Value)) (hk : k ≠ r) : (putMap enc W r m').heap[k]? = W.heap[k]? := by
 simp only [putMap, Array.getElem?_setIfInBounds]
 rw [if_neg (fun e => hk e.symm)]
theorem MapAt.put_other {κ' : Type} [DecidableEq κ'] {enc' : κ' → Value} {r' : Nat} {m₁ : List (κ' × Value)} (h : MapAt enc' W r' m₁) (hne : r' ≠ r) (m' : List (κ × Value)) : MapAt enc' (putMap enc W r m') r' m₁ :=
 h.of_heap (putMap_heap_other m' hne)
theorem size_putMap (m' : List (κ × Value)) : (putMap enc W r m').heap.size = W.heap.size := by simp [putMap]
theorem below_putMap {B : Nat} {w : World} (h : Below B w W) (hr : B ≤ r) (m' : List (κ × Value)) : Below B w (putMap enc W r m') :=
 h.trans ⟨rfl, rfl, rfl, by simp [putMap], fun k hk => putMap_heap_other m' (by omega)⟩
theorem MapAt.new (w : World) : MapAt enc (w.alloc (.map #[] 0)) w.heap.size ([] : List (κ × Value)) := by
 have : (w.alloc (.map #[] 0)).heap[w.heap.size]? = some (.map #[] 0) := by
  show (w.heap.push _)[w.heap.size]? = _
  simp
 simpa [MapAt, ents] using this
end
def encS (s : ByteArray) : Value := .string s
def encI (n : Int) : Value := .int .i64 n
theorem ba_beq (a b : ByteArray) : (a == b) = decide (a = b) := by
 obtain ⟨x⟩ := a
 obtain ⟨y⟩ := b
 by_cases h : x = y
 ·subst h
  simp only [decide_true]
  show (x == x) = true
  simp
 ·have h2 : ¬ (⟨x⟩ : ByteArray) = ⟨y⟩ := fun e => h (by injection e)
  simp only [h2, decide_false]
  show (x == y) = false
  simpa using h
instance baLawful : LawfulBEq ByteArray where
 eq_of_beq {a b} h := by rw [ba_beq] at h; simpa using h
 rfl {a} := by rw [ba_beq]; simp
theorem keyS : KeyKind encS .string := by
 refine ⟨fun a b => ?_, fun a => ?_, fun e n t P a w h => ?_⟩
 ·simp only [encS, Instr.sameNow, Option.some.injEq]
  exact ba_beq a b
 ·simp [encS, Instr.sameBits, ba_beq]
 ·unfold Instr.checkKey
  simp [Sem.run_bind, run_underlying h, Result.andThen, encS]
theorem keyI : KeyKind encI (.int .i64) := by
 refine ⟨fun a b => ?_, fun a => ?_, fun e n t P a w h => ?_⟩
 ·simp only [encI, Instr.sameNow, if_true, Option.some.injEq]
  by_cases h : a = b
  ·subst h; simp
  ·simp [h]
 ·simp [encI, Instr.sameBits]
 ·unfold Instr.checkKey
  simp [Sem.run_bind, run_underlying h, Result.andThen, encI]
end
end Go.Proofs.YtlhkeohcickiaaaGreatDoor.H
namespace Go.Proofs.YtlhkeohcickiaaaGreatDoor.E
open Go.RowKit Go.Proofs.YtlhkeohcickiaaaGreatDoor.H Go.Proofs.YtlhkeohcickiaaaGreatDoorW.PrintWords Go.Proofs.YtlhkeohcickiaaaGreatDoorW.PrintLast Go.Proofs.YtlhkeohcickiaaaGreatDoorW.PrintMore
section
def setOf (l : List ByteArray) : List (ByteArray × Value) := l.foldl (fun m s => mput m s (.bool true)) []
def has (m : List (ByteArray × Value)) (s : ByteArray) : Bool := (mget m s).isSome
theorem need_true (at_ e : Int) (w : World) : Calls Tryz.prog 42 #[.bool true, .int .i64 at_, .int .i64 e] w fun e w' => e = .returned (.tuple #[]) ∧ w = w' := by
 go_enter Tryz.func42, Tryz.ntmps42
 go_wp2
 go_end0
 exact ⟨rfl, rfl⟩
theorem need_false (at_ e : Int) (w : World) : Calls Tryz.prog 42 #[.bool false, .int .i64 at_, .int .i64 e] w fun en w' => en = .panicked [{ v := .iface 101 (.agg #[.int .i64 at_, .int .i64 e]), recovered := false }] ∧ w = w' := by
 go_enter Tryz.func42, Tryz.ntmps42
 go_wp2
 exact ⟨rfl, rfl, rfl⟩
set_option maxHeartbeats 800000 in
theorem of_calls (A : Option Addr) (c : Nat) (l : List ByteArray) (w : World) (hr : Kd.C Kd.string w A l.length l) (hc : l.length ≤ c) :
  Calls Tryz.prog 46 #[.slice A l.length c] w fun e w' => ∃ r : Nat, e = .returned (.map (some r)) ∧ H.MapAt H.encS w' r (setOf l) ∧ w.heap.size ≤ r ∧ Below w.heap.size w w' := by
 have hm63 := hr.2.1
 have hmm := @run_makeMap Tryz.prog
 go_enter Tryz.func46, Tryz.ntmps46
 go_wp2
 obtain ⟨W0, hW0⟩ : ∃ W0, W0 = w.alloc (.map #[] 0) := ⟨_, rfl⟩
 go_loopw [9] (fun i wr => ∃ k : Nat, k ≤ l.length ∧ i = .int .i64 k ∧ H.MapAt H.encS wr w.heap.size (setOf (l.take k)) ∧ Below w.heap.size w wr) (fun i _ => l.length - (intOf i).toNat)
 case atStart => exact ⟨0, Nat.zero_le _, rfl, MapAt.new w, (Below.refl _ _).alloc (Nat.le_refl _) _⟩
 case round =>
  obtain ⟨k, hk, rfl, hm, hb⟩ := hrel
  by_cases hlt : k < l.length
  ·obtain ⟨ad, rfl, hcell⟩ := Kd.at_string hr (k : Int) (by omega) (by omega)
   have hcell' : wr.cell? (ad.add k) = some (.string (rdOf ByteArray.empty l k)) := by
    have h0 : w.cell? (ad.add k) = some (.string (rdOf ByteArray.empty l k)) := by simpa using hcell
    exact pw_cell_below hb h0
   have hrd : setOf (l.take (k + 1)) = mput (setOf (l.take k)) (rdOf ByteArray.empty l k) (.bool true) := by
    have : l.take (k + 1) = l.take k ++ [rdOf ByteArray.empty l k] := by
     rw [List.take_add_one, List.getElem?_eq_getElem hlt]
     simp [rdOf, List.getD_eq_getElem?_getD, List.getElem?_eq_getElem hlt]
    rw [this]; simp [setOf]
   have hup : (Instr.mapUpdate 71 (.map (some w.heap.size)) (.string (rdOf ByteArray.empty l k)) (.bool true)).run Tryz.prog wr = .ok () (putMap H.encS wr w.heap.size (mput (setOf (l.take k)) (rdOf ByteArray.empty l k) (.bool true))) :=
    run_mapUpdate_at keyS Tryz.underlying71 Tryz.underlying9 hm _ _
   have H1 := Aside0.mk hrd
   have H2 := Aside0.mk hm
   have H3 := Aside0.mk hb
   clear hrd hm hb hcell
   go_wp2
   go_roundw
   case rel => exact ⟨k + 1, by omega, by go_num, H1.out ▸ H2.out.put _, below_putMap H3.out (Nat.le_refl _) _⟩
   case measure => simp [intOf]; omega
  ·have hk2 : k = l.length := by omega
   have H2 := Aside0.mk hm
   have H3 := Aside0.mk hb
   clear hm hb
   go_wp2
   go_ret
   exact ⟨_, rfl, by have := H2.out; rwa [hk2, List.take_length] at this, Nat.le_refl _, H3.out⟩
theorem zero4 (w : World) : (zeroValue 4).run Tryz.prog w = .ok (.bool false) w := by kernel_rfl
theorem zero3 (w : World) : (zeroValue 3).run Tryz.prog w = .ok (.int .i64 0) w := by kernel_rfl
def Pred (g : Nat) (caps : Array Value) (p : ByteArray → Bool) (w : World) : Prop := ∀ s, Calls Tryz.prog g (#[.string s] ++ caps) w fun e w' => e = .returned (.bool (p s)) ∧ w' = w
def firstAt (p : ByteArray → Bool) (l : List ByteArray) : Int := match l.findIdx? p with | some i => i | none => -1
theorem firstAt_ge (p : ByteArray → Bool) (l : List ByteArray) : decide (firstAt p l ≥ 0) = l.any p := by
 unfold firstAt
 cases h : l.findIdx? p with
 | none =>
  rw [List.findIdx?_eq_none_iff] at h
  simp only [show ¬ ((-1 : Int) ≥ 0) by omega, decide_false]
  symm
  rw [List.any_eq_false]
  intro x hx
  simp [h x hx]
 | some i =>
  simp only [show ((i : Nat) : Int) ≥ 0 by omega, decide_true]
  symm
  rw [List.any_eq_true]
  rw [List.findIdx?_eq_some_iff_getElem] at h
  obtain ⟨h1, h2, _⟩ := h
  exact ⟨l[i], List.getElem_mem h1, h2⟩
set_option maxHeartbeats 800000 in
theorem index_calls (g : Nat) (caps : Array Value) (eg : ∀ args w, (callFunc g args).run Tryz.prog w = .ok (.enter g args) w) (p : ByteArray → Bool) (A : Option Addr) (c : Nat) (l : List ByteArray) (w : World) (hr : Kd.C Kd.string w A l.length l) (hp : Pred g caps p w) :
  Calls Tryz.prog 93 #[.slice A l.length c, .func (.func g) #[] caps] w fun e w' => e = .returned (.int .i64 (firstAt p l)) ∧ w' = w := by
 have hm63 := hr.2.1
 have HP := Aside0.mk hp
 have HR := Aside0.mk hr
 clear hp hr
 go_enter Tryz.func93, Tryz.ntmps93
 go_wp2
 go_loop [8] (fun i => ∃ k : Nat, k ≤ l.length ∧ i = .int .i64 k ∧ Aside0 (∀ j, j < k → p (l.getD j ByteArray.empty) = false)) (fun i => l.length - (intOf i).toNat)
 case atStart => exact ⟨0, Nat.zero_le _, rfl, ⟨fun j hj => absurd hj (by omega)⟩⟩
 case round =>
  obtain ⟨k, hk, rfl, hno⟩ := hrel
  by_cases hlt : k < l.length
  ·obtain ⟨ad, rfl, hcell⟩ := Kd.at_string HR.out (k : Int) (by omega) (by omega)
   have hcell' : w.cell? (ad.add k) = some (.string (rdOf ByteArray.empty l k)) := by simpa using hcell
   clear hcell
   have hrd : rdOf ByteArray.empty l (k : Int) = l.getD k ByteArray.empty := by simp [rdOf]
   have hc := HP.out (rdOf ByteArray.empty l k)
   have HC := Aside0.mk hc
   have HRD := Aside0.mk hrd
   clear hc hrd
   by_cases hpk : p (rdOf ByteArray.empty l (k : Int)) = true
   ·have HPK := Aside0.mk hpk
    clear hpk
    go_wp2_with (first | ((with_reducible refine HC.out.mono ?_); rintro e w' ⟨rfl, rfl⟩; rw [HPK.out]))
    go_ret
    refine ⟨?_, rfl⟩
    have : firstAt p l = (k : Int) := by
     unfold firstAt
     have : l.findIdx? p = some k := by
      rw [List.findIdx?_eq_some_iff_getElem]
      refine ⟨hlt, ?_, fun j hj => ?_⟩
      ·have h1 := HPK.out
       rw [HRD.out, List.getD_eq_getElem?_getD, List.getElem?_eq_getElem hlt] at h1
       simpa using h1
      ·have h1 := hno.out j hj
       rw [List.getD_eq_getElem?_getD, List.getElem?_eq_getElem (by omega)] at h1
       simpa using h1
     rw [this]
    rw [this]
    rfl
   ·have hpf : p (rdOf ByteArray.empty l (k : Int)) = false := by simpa using hpk
    have HPK := Aside0.mk hpf
    clear hpk hpf
    go_wp2_with (first | ((with_reducible refine HC.out.mono ?_); rintro e w' ⟨rfl, rfl⟩; rw [HPK.out]))
    go_round
    case rel =>
     refine ⟨k + 1, by omega, by go_num, ⟨fun j hj => ?_⟩⟩
     by_cases e : j = k
     ·subst e; rw [← HRD.out]; exact HPK.out
     ·exact hno.out j (by omega)
    case measure => simp [intOf]; omega
  ·have hk2 : k = l.length := by omega
   have HK2 := Aside0.mk hk2
   clear hk2
   go_wp2
   go_ret
   refine ⟨?_, rfl⟩
   have : firstAt p l = -1 := by
    unfold firstAt
    have : l.findIdx? p = none := by
     rw [List.findIdx?_eq_none_iff]
     intro x hx
     obtain ⟨j, hj, e⟩ := List.getElem_of_mem hx
     have h1 := hno.out j (by have := HK2.out; omega)
     rw [List.getD_eq_getElem?_getD, List.getElem?_eq_getElem hj] at h1
     simpa [e] using h1
    rw [this]
   rw [this]
   rfl
theorem contains_calls (g : Nat) (caps : Array Value) (eg : ∀ args w, (callFunc g args).run Tryz.prog w = .ok (.enter g args) w) (p : ByteArray → Bool) (A : Option Addr) (c : Nat) (l : List ByteArray) (w : World) (hr : Kd.C Kd.string w A l.length l) (hp : Pred g caps p w) :
  Calls Tryz.prog 71 #[.slice A l.length c, .func (.func g) #[] caps] w fun e w' => e = .returned (.bool (l.any p)) ∧ w' = w := by
 have HI := Aside0.mk (index_calls g caps eg p A c l w hr hp)
 clear hr hp eg
 go_enter Tryz.func71, Tryz.ntmps71
 go_wp2_with (first | (go_at_call 93; (with_reducible refine HI.out.mono ?_); rintro e w' ⟨rfl, rfl⟩))
 go_ret
 refine ⟨?_, rfl⟩
 rw [← firstAt_ge]
 rfl
theorem enters72 (args : Array Value) (w : World) : (callFunc 72 args).run Tryz.prog w = .ok (.enter 72 args) w := enters_of Tryz.func72 (by kernel_rfl) rfl args w
theorem enters114 (args : Array Value) (w : World) : (callFunc 114 args).run Tryz.prog w = .ok (.enter 114 args) w := enters_of Tryz.func114 (by kernel_rfl) rfl args w
theorem any1_pred (m : List (ByteArray × Value)) (hb : ∀ p ∈ m, p.2 = .bool true) (r : Nat) (a : Addr) (w : World) (hm : H.MapAt H.encS w r m) (ha : w.cell? a = some (.map (some r))) : Pred 72 #[.pointer (some a)] (has m) w := by
 intro s
 have hl : (Instr.lookup 71 (.map (some r)) (.string s) false).run Tryz.prog w = .ok ((mget m s).getD (.bool false)) w := run_lookup_at keyS Tryz.underlying71 Tryz.underlying9 hm zero4 s
 have hv : (mget m s).getD (.bool false) = .bool (has m s) := by
  unfold has
  cases h : mget m s with
  | none => rfl
  | some v =>
   have := (mget_some h).2.1
   have h2 := hb _ (List.mem_of_getElem? this)
   simpa using h2
 rw [hv] at hl
 clear hv
 show Calls Tryz.prog 72 #[.string s, .pointer (some a)] w _
 clear hm hb
 go_enter Tryz.func72, Tryz.ntmps72
 go_wp2
 go_ret
 exact ⟨rfl, rfl⟩
theorem all1_pred (m : List (ByteArray × Value)) (hb : ∀ p ∈ m, p.2 = .bool true) (r : Nat) (a : Addr) (w : World) (hm : H.MapAt H.encS w r m) (ha : w.cell? a = some (.map (some r))) : Pred 114 #[.pointer (some a)] (fun s => !has m s) w := by
 intro s
 have hl : (Instr.lookup 71 (.map (some r)) (.string s) false).run Tryz.prog w = .ok ((mget m s).getD (.bool false)) w := run_lookup_at keyS Tryz.underlying71 Tryz.underlying9 hm zero4 s
 have hv : (mget m s).getD (.bool false) = .bool (has m s) := by
  unfold has
  cases h : mget m s with
  | none => rfl
  | some v =>
   have := (mget_some h).2.1
   have h2 := hb _ (List.mem_of_getElem? this)
   simpa using h2
 rw [hv] at hl
 clear hv
 show Calls Tryz.prog 114 #[.string s, .pointer (some a)] w _
 clear hm hb
 go_enter Tryz.func114, Tryz.ntmps114
 go_wp2
 go_ret
 exact ⟨rfl, rfl⟩
theorem any_calls (m : List (ByteArray × Value)) (hb : ∀ p ∈ m, p.2 = .bool true) (r : Nat) (A : Option Addr) (c : Nat) (l : List ByteArray) (w : World) (hm : H.MapAt H.encS w r m) (hr : Kd.C Kd.string w A l.length l) :
  Calls Tryz.prog 47 #[.map (some r), .slice A l.length c] w fun e w' => e = .returned (.bool (l.any (has m))) ∧ Below w.heap.size w w' := by
 have hP := any1_pred m hb r ⟨w.heap.size, 0, none⟩ (w.alloc (.cells #[.map (some r)] 71)) (hm.alloc _) (by simp)
 have HC := Aside0.mk (contains_calls 72 _ enters72 (has m) A c l _ (Kd.C_below hr ((Below.refl _ w).alloc (Nat.le_refl _) _)) hP)
 have hmf : ∀ (fn : Fn) (first cap : Array Value) (w : World), (Instr.makeFunc fn first cap).run Tryz.prog w = .ok (.func fn first cap) w := fun _ _ _ _ => rfl
 clear hP hm hr hb
 go_enter Tryz.func47, Tryz.ntmps47
 go_wp2_with (first | (go_at_call 71; (with_reducible refine HC.out.mono ?_); rintro e w' ⟨rfl, rfl⟩))
 go_ret
 exact ⟨rfl, (Below.refl _ w).alloc (Nat.le_refl _) _⟩
theorem any_all (p : ByteArray → Bool) (l : List ByteArray) : (!(l.any fun s => !p s)) = l.all p := by
 induction l with
 | nil => rfl
 | cons a l ih => simp only [List.any_cons, List.all_cons, Bool.not_or, Bool.not_not, ih]
theorem all_calls (m : List (ByteArray × Value)) (hb : ∀ p ∈ m, p.2 = .bool true) (r : Nat) (A : Option Addr) (c : Nat) (l : List ByteArray) (w : World) (hm : H.MapAt H.encS w r m) (hr : Kd.C Kd.string w A l.length l) :
  Calls Tryz.prog 106 #[.map (some r), .slice A l.length c] w fun e w' => e = .returned (.bool (l.all (has m))) ∧ Below w.heap.size w w' := by
 have hP := all1_pred m hb r ⟨w.heap.size, 0, none⟩ (w.alloc (.cells #[.map (some r)] 71)) (hm.alloc _) (by simp)
 have HC := Aside0.mk (contains_calls 114 _ enters114 (fun s => !has m s) A c l _ (Kd.C_below hr ((Below.refl _ w).alloc (Nat.le_refl _) _)) hP)
 have hmf : ∀ (fn : Fn) (first cap : Array Value) (w : World), (Instr.makeFunc fn first cap).run Tryz.prog w = .ok (.func fn first cap) w := fun _ _ _ _ => rfl
 have hE := any_all (has m) l
 have HE := Aside0.mk hE
 clear hP hm hr hb hE
 go_enter Tryz.func106, Tryz.ntmps106
 go_wp2_with (first | (go_at_call 71; (with_reducible refine HC.out.mono ?_); rintro e w' ⟨rfl, rfl⟩))
 go_ret
 refine ⟨?_, (Below.refl _ w).alloc (Nat.le_refl _) _⟩
 rw [← HE.out]
 rfl
end
end Go.Proofs.YtlhkeohcickiaaaGreatDoor.E

