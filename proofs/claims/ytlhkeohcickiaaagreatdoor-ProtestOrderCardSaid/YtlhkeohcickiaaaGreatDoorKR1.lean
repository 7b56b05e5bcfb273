/- Part 1 of 31 of the proof of ProtestOrder: lemmas, without conditions. -/
import Derived.Orders
import Derived.WalkKit
import Derived.OrdersIn
set_option linter.all false
namespace Go.Proofs.YtlhkeohcickiaaaGreatDoor.H
open Go
section
section
variable {P : Program} {ops : Array Oper} {Q : Exit → Act → World → Prop} {md : Region.Mode} {S : World → Prop}
def SteadyRes (P : Program) (S : World → Prop) (v : Value) : Result Next → Prop
 | .ok (.value u) w' => u = v ∧ S w'
 | .ok .skip w' => v = undef ∧ S w'
 | .ok (.enter f args) w' => Calls P f args w' fun e w'' => e = .returned v ∧ S w''
 | _ => False
def SteadyRun (P : Program) (S : World → Prop) (m : Sem Next) (v : Value) : Prop := ∀ w, S w → SteadyRes P S v (m.run P w)
def Steady (P : Program) (ops : Array Oper) (S : World → Prop) (o : Oper) (v : Value) (a : Act) : Prop :=
 (Region.wanted o (yielded ops a.tmps) = true ∧ SteadyRun P S (execOp a.eval o) v) ∨ (Region.wanted o (yielded ops a.tmps) = false ∧ v = undef)
theorem Steady.of_same {o : Oper} {v : Value} {a a' : Act} (h : Steady P ops S o v a) (he : execOp a'.eval o = execOp a.eval o)
  (hw : Region.wanted o (yielded ops a'.tmps) = Region.wanted o (yielded ops a.tmps)) : Steady P ops S o v a' := by
 unfold Steady at *
 rw [he, hw]
 exact h
theorem Steady.wpOp {i : Nat} {o : Oper} {v : Value} {a : Act} (hi : ops[i]? = some o) (hy : Steady P ops S o v a)
  {K : Act → World → Prop} {w : World} (hS : S w) (h : ∀ w', S w' → K (a.put o.dst v) w') : Go.wpOp P ops Q i K a w := by
 unfold Go.wpOp
 simp only [hi]
 rcases hy with ⟨hw, hv⟩ | ⟨hw, rfl⟩
 ·simp only [hw, if_true, Oper.wp]
  left
  have h1 := hv w hS
  unfold SteadyRes at h1
  split at h1
  ·rename_i u w' hr
   obtain ⟨rfl, h2⟩ := h1
   rw [hr]
   exact h w' h2
  ·rename_i w' hr
   obtain ⟨rfl, h2⟩ := h1
   rw [hr]
   exact h w' h2
  ·rename_i f args w' hr
   rw [hr]
   exact h1.mono fun e w'' ⟨he, h2⟩ => by subst he; exact h w'' h2
  ·exact h1.elim
 ·simp only [hw, Bool.false_eq_true, if_false]
  exact h w hS
def AllSt (P : Program) (md : Region.Mode) (ops : Array Oper) (Q : Exit → Act → World → Prop) (S : World → Prop) : Nat → Array Bool → Act → Prop
 | 0, listed, a => Region.ready md ops listed = [] ∧ ∀ w, S w → Q .normal a w
 | fuel + 1, listed, a => (Region.ready md ops listed = [] → ∀ w, S w → Q .normal a w) ∧
   ∀ i ∈ Region.ready md ops listed, ∃ oi v, ops[i]? = some oi ∧ Steady P ops S oi v a ∧ AllSt P md ops Q S fuel (listed.setIfInBounds i true) (a.put oi.dst v)
theorem AllSt.sound : ∀ (fuel : Nat) (listed : Array Bool) (a : Act), AllSt P md ops Q S fuel listed a → ∀ w, S w → wpAny P md ops Q fuel listed a w
 | 0, _, _, h, w, hS => ⟨h.1, h.2 w hS⟩
 | fuel + 1, listed, a, h, w, hS => ⟨fun h0 => h.1 h0 w hS, fun i hi => by
   obtain ⟨oi, v, ho, hst, hr⟩ := h.2 i hi
   exact hst.wpOp ho hS fun w' hw' => AllSt.sound fuel _ _ hr w' hw'⟩
theorem AllSt.take {i : Nat} {oi : Oper} {v : Value} (hi : ops[i]? = some oi) (hsel : ∀ (j : Nat) (o : Oper) cs b, ops[j]? = some o → o.op ≠ .select cs b) :
  ∀ (fuel : Nat) (listed : Array Bool) (a : Act),
   (∀ j oj, ops[j]? = some oj → j ≠ i → listed.getD j true = false → (∀ e ∈ oj.after, Region.binds md e = true → e.on ≠ i) → oi.apart ops oj = true) →
   i ∈ Region.ready md ops listed → Steady P ops S oi v a →
   AllSt P md ops Q S fuel (listed.setIfInBounds i true) (a.put oi.dst v) → AllSt P md ops Q S (fuel + 1) listed a := by
 intro fuel
 induction fuel with
 | zero =>
  intro listed a _ hr hy H
  refine ⟨fun h => (by rw [h] at hr; cases hr), fun j hj => ?_⟩
  by_cases hji : j = i
  ·subst hji; exact ⟨oi, v, hi, hy, H⟩
  ·have := ready_mono hj hji
   rw [H.1] at this
   cases this
 | succ fuel ih =>
  intro listed a hfree hr hy H
  refine ⟨fun h => (by rw [h] at hr; cases hr), fun j hj => ?_⟩
  by_cases hji : j = i
  ·subst hji; exact ⟨oi, v, hi, hy, H⟩
  ·obtain ⟨oj, u, hoj, hstj, hrest⟩ := H.2 j (ready_mono hj hji)
   obtain ⟨hjun, oj', hoj', hall⟩ := mem_ready.1 hj
   rw [hoj] at hoj'
   injection hoj' with hoj'
   subst hoj'
   have hnot : ∀ e ∈ oj.after, Region.binds md e = true → e.on ≠ i := fun e he hb heq => by
    have h1 := hall e he hb
    have h0 := (mem_ready.1 hr).1
    rw [heq] at h1
    rcases Nat.lt_or_ge i listed.size with h' | h'
    ·simp [h'] at h0 h1; rw [h0] at h1; cases h1
    ·simp [Array.getElem?_eq_none h'] at h1
   have hap := hfree j oj hoj hji hjun hnot
   obtain ⟨ap1, ap2, ap3⟩ := Oper.apart_spec hap
   have hstj' : Steady P ops S oj u a := hstj.of_same (execOp_put (ops := ops) oj (fun cs b => hsel j oj cs b hoj) a oi.dst v ap1).symm (wanted_put oj a oi.dst v ap1).symm
   have hsti' : Steady P ops S oi v (a.put oj.dst u) := hy.of_same (execOp_put (ops := ops) oi (fun cs b => hsel i oi cs b hi) a oj.dst u ap3) (wanted_put oi a oj.dst u ap3)
   have hfree' : ∀ k ok, ops[k]? = some ok → k ≠ i → (listed.setIfInBounds j true).getD k true = false →
     (∀ e ∈ ok.after, Region.binds md e = true → e.on ≠ i) → oi.apart ops ok = true := fun k ok hk hki hun hno => by
    refine hfree k ok hk hki ?_ hno
    by_cases hjk : j = k
    ·subst hjk; exact hjun
    ·rw [getD_set_ne true hjk] at hun; exact hun
   refine ⟨oj, u, hoj, hstj', ih (listed.setIfInBounds j true) (a.put oj.dst u) hfree' (ready_mono hr (Ne.symm hji)) hsti' ?_⟩
   rw [Array.setIfInBounds_comm _ _ hji]
   have hc := Act.put_comm a (x := oi.dst) (y := oj.dst) v u ap2
   rw [← hc]
   exact hrest
def textOk (md : Region.Mode) (ops : Array Oper) : Bool :=
 Region.noSelect ops && (List.range ops.size).all fun i => Region.free md ops ((Array.range ops.size).map fun j => decide (j < i)) i && (Region.ready md ops ((Array.range ops.size).map fun j => decide (j < i))).contains i
def listedTo (n i : Nat) : Array Bool := (Array.range n).map fun j => decide (j < i)
theorem listedTo_succ (n i : Nat) : (listedTo n i).setIfInBounds i true = listedTo n (i + 1) := by
 apply Array.ext_getElem?
 intro j
 simp only [listedTo, Array.getElem?_setIfInBounds, Array.getElem?_map, Array.getElem?_range, Array.size_map, Array.size_range]
 by_cases hj : j < n
 ·by_cases e : i = j
  ·subst e; simp [hj]
  ·simp [hj, e]; omega
 ·by_cases e : i = j
  ·subst e; simp [hj]
  ·simp [hj, e]
def Chain (P : Program) (ops : Array Oper) (S : World → Prop) : List Oper → Act → (Act → Prop) → Prop
 | [], a, K => K a
 | o :: l, a, K => ∃ v, Steady P ops S o v a ∧ Chain P ops S l (a.put o.dst v) K
theorem AllSt.of_chain (ht : textOk md ops = true) : ∀ (l : List Oper) (i : Nat) (a : Act), (∀ j, l[j]? = ops[i + j]?) → i + l.length = ops.size →
  Chain P ops S l a (fun a' => ∀ w, S w → Q .normal a' w) → AllSt P md ops Q S l.length (listedTo ops.size i) a := by
 unfold textOk at ht
 rw [Bool.and_eq_true, List.all_eq_true] at ht
 obtain ⟨hs, hall⟩ := ht
 intro l
 induction l with
 | nil =>
  intro i a _ hlen h
  refine ⟨?_, h⟩
  rw [List.eq_nil_iff_forall_not_mem]
  intro j hj
  obtain ⟨h0, o, ho, _⟩ := mem_ready.1 hj
  have hlt := (Array.getElem?_eq_some_iff.1 ho).1
  simp at hlen
  simp [listedTo, hlt] at h0
  omega
 | cons o l ih =>
  intro i a hl hlen h
  obtain ⟨v, hst, hrest⟩ := h
  have ho : ops[i]? = some o := by simpa using (hl 0).symm
  have hlt : i < ops.size := (Array.getElem?_eq_some_iff.1 ho).1
  have hc := hall i (List.mem_range.2 hlt)
  rw [Bool.and_eq_true] at hc
  refine AllSt.take ho (Region.noSelect_spec hs) l.length (listedTo ops.size i) a (Region.free_spec ho hc.1) (by unfold listedTo; simpa using hc.2) hst ?_
  rw [listedTo_succ]
  exact ih (i + 1) _ (fun j => by have := hl (j + 1); simpa [Nat.add_assoc, Nat.add_comm 1 j] using this) (by simp at hlen; omega) hrest
theorem Chain.val {o : Oper} {l : List Oper} {a : Act} {K : Act → Prop} (v : Value) (hw : Region.wanted o (yielded ops a.tmps) = true) (hr : ∀ w, S w → SteadyRes P S v ((execOp a.eval o).run P w))
  (h : Chain P ops S l (a.put o.dst v) K) : Chain P ops S (o :: l) a K := ⟨v, .inl ⟨hw, hr⟩, h⟩
theorem Chain.skip {o : Oper} {l : List Oper} {a : Act} {K : Act → Prop} (hw : Region.wanted o (yielded ops a.tmps) = false) (h : Chain P ops S l (a.put o.dst undef) K) : Chain P ops S (o :: l) a K := ⟨undef, .inr ⟨hw, rfl⟩, h⟩
theorem Chain.nil {a : Act} {K : Act → Prop} (h : K a) : Chain P ops S [] a K := h
theorem SteadyRes_value {v u : Value} {w' : World} : SteadyRes P S v (.ok (.value u) w') = (u = v ∧ S w') := rfl
theorem SteadyRes_skip {v : Value} {w' : World} : SteadyRes P S v (.ok .skip w') = (v = undef ∧ S w') := rfl
theorem SteadyRes_enter {v : Value} {f : FuncId} {args : Array Value} {w' : World} : SteadyRes P S v (.ok (.enter f args) w') = Calls P f args w' fun e w'' => e = .returned v ∧ S w'' := rfl
theorem wp_region_steady {id : Nat} {l : List Oper} {a : Act} {w : World} (hm : P.follows .mixedOrders = true) (S : World → Prop) (hS : S { w with drawn := w.drawn + 1 }) (ht : textOk .any l.toArray = true)
  (h : Chain P l.toArray S l a (fun a' => ∀ w, S w → Q .normal a' w)) : (Code.region id l.toArray true).wp P Q a w := by
 refine wp_region_any hm ?_
 have h0 : Array.replicate l.toArray.size false = listedTo l.toArray.size 0 := by
  apply Array.ext_getElem?
  intro j
  simp only [listedTo, Array.getElem?_replicate, Array.getElem?_map, Array.getElem?_range]
  split <;> simp
 rw [h0]
 have := AllSt.of_chain (P := P) (ops := l.toArray) (md := .any) (Q := Q) (S := S) ht l 0 a (fun j => by simp) (by simp) h
 exact AllSt.sound _ _ _ (by simpa using this) _ hS
end
end
section
section
variable {F : Fence} {n : Nat} {P : Program} {ops : Array Oper} {Q : Exit → Act → World → Prop} {md : Region.Mode} {S : Nat → World → Prop} {cs : List Nat}
def StRes (S : Nat → World → Prop) (t : Nat) (v : Value) : Result Next → Prop
 | .ok (.value u) w' => u = v ∧ S t w'
 | .ok .skip w' => v = undef ∧ S t w'
 | _ => False
def Closed (md : Region.Mode) (ops : Array Oper) (cs : List Nat) (listed : Array Bool) : Prop :=
 ∀ c ∈ cs, listed.getD c false = true → ∀ o, ops[c]? = some o → ∀ e ∈ o.after, Region.binds md e = true → listed.getD e.on false = true
def stg (cs : List Nat) (listed : Array Bool) : Nat := (cs.filter fun c => listed.getD c false).length
def edge (md : Region.Mode) (ops : Array Oper) (c i : Nat) : Bool := match ops[c]? with | some o => o.after.any fun e => Region.binds md e && e.on == i | none => false
def lastOf (md : Region.Mode) (ops : Array Oper) (cs : List Nat) (i : Nat) : Nat := cs.findIdx fun c => edge md ops c i
def chainOk (md : Region.Mode) (ops : Array Oper) (cs : List Nat) : Bool :=
 decide cs.Nodup && (cs.all fun c => decide (c < ops.size)) && (List.range cs.length).all fun k => decide (cs.length ≤ k + 1) || edge md ops (cs.getD (k + 1) 0) (cs.getD k 0)
def noDefer (ops : Array Oper) : Bool := ops.all fun o => match o.op with | .defer _ => false | _ => true
def StepX (md : Region.Mode) (P : Program) (ops : Array Oper) (S : Nat → World → Prop) (cs : List Nat) (i : Nat) (o : Oper) (v : Value) (a : Act) : Prop :=
  Region.wanted o (yielded ops a.tmps) = true ∧
    ((∃ k, cs[k]? = some i ∧ ∀ w, S k w → StRes S (k + 1) v ((execOp a.eval o).run P w)) ∨
     (i ∉ cs ∧ ∀ t, t ≤ lastOf md ops cs i → ∀ w, S t w → StRes S t v ((execOp a.eval o).run P w)))
theorem StepX.of_same {i : Nat} {o : Oper} {v : Value} {a a' : Act} (h : StepX md P ops S cs i o v a) (he : execOp a'.eval o = execOp a.eval o)
  (hw : Region.wanted o (yielded ops a'.tmps) = Region.wanted o (yielded ops a.tmps)) : StepX md P ops S cs i o v a' := by
 unfold StepX at *
 rw [he, hw]
 exact h
theorem edge_of {c i : Nat} (h : edge md ops c i = true) : ∃ o, ops[c]? = some o ∧ ∃ e ∈ o.after, Region.binds md e = true ∧ e.on = i := by
 unfold edge at h
 split at h
 ·rename_i o ho
  rw [Array.any_eq_true'] at h
  obtain ⟨e, he, hb⟩ := h
  simp only [Bool.and_eq_true, beq_iff_eq] at hb
  exact ⟨o, ho, e, he, hb.1, hb.2⟩
 ·cases h
theorem chain_edge (hc : chainOk md ops cs = true) {k : Nat} (h : k + 1 < cs.length) : edge md ops cs[k + 1] cs[k] = true := by
 unfold chainOk at hc
 rw [Bool.and_eq_true, List.all_eq_true] at hc
 have := hc.2 k (List.mem_range.2 (by omega))
 have h2 : cs.length ≤ k + 1 ∨ edge md ops cs[k + 1] cs[k] = true := by simpa [List.getD_eq_getElem?_getD, List.getElem?_eq_getElem h, List.getElem?_eq_getElem (Nat.lt_of_succ_lt h), h] using this
 exact h2.resolve_left (by omega)
theorem chain_nodup (hc : chainOk md ops cs = true) : cs.Nodup := by
 unfold chainOk at hc
 simp only [Bool.and_eq_true, decide_eq_true_eq] at hc
 exact hc.1.1
theorem closed_up (hc : chainOk md ops cs = true) {listed : Array Bool} (h : Closed md ops cs listed) {k : Nat} (hk : k < cs.length) (hun : listed.getD cs[k] false = false) :
  ∀ d, (hd : k + d < cs.length) → listed.getD cs[k + d] false = false := by
 intro d
 induction d with
 | zero => intro _; exact hun
 | succ d ih =>
  intro hd
  have h1 := ih (by omega)
  obtain ⟨o, ho, e, he, hb, hon⟩ := edge_of (chain_edge hc (k := k + d) (by omega))
  cases hl : listed.getD cs[k + (d + 1)] false with
  | false => rfl
  | true =>
   have := h _ (List.getElem_mem hd) hl o (by simpa [Nat.add_assoc] using ho) e he hb
   rw [hon, h1] at this
   cases this
theorem closed_down (hc : chainOk md ops cs = true) {listed : Array Bool} (h : Closed md ops cs listed) :
  ∀ (k : Nat) (hk : k < cs.length), (∀ o, ops[cs[k]]? = some o → ∀ e ∈ o.after, Region.binds md e = true → listed.getD e.on false = true) → ∀ j, (hj : j < k) → listed.getD (cs[j]'(by omega)) false = true := by
 intro k
 induction k with
 | zero => intro _ _ j hj; omega
 | succ k ih =>
  intro hk hall j hj
  obtain ⟨o, ho, e, he, hb, hon⟩ := edge_of (chain_edge hc (k := k) hk)
  have h1 := hall o ho e he hb
  rw [hon] at h1
  rcases Nat.lt_or_ge j k with hlt | hge
  ·exact ih (by omega) (fun o' ho' e' he' hb' => h _ (List.getElem_mem (by omega)) h1 o' ho' e' he' hb') j hlt
  ·have : j = k := by omega
   subst this
   exact h1
theorem stg_of {listed : Array Bool} {k : Nat} (hk : k ≤ cs.length) (h : ∀ j, (hj : j < cs.length) → listed.getD cs[j] false = decide (j < k)) : stg cs listed = k := by
 unfold stg
 have e : cs.filter (fun c => listed.getD c false) = cs.take k := by
  conv => lhs; rw [← List.take_append_drop k cs]
  rw [List.filter_append]
  have h1 : (cs.take k).filter (fun c => listed.getD c false) = cs.take k := by
   rw [List.filter_eq_self]
   intro c hc
   obtain ⟨j, hj, rfl⟩ := List.getElem_of_mem hc
   rw [List.length_take] at hj
   rw [List.getElem_take, h j (by omega)]
   exact decide_eq_true (by omega)
  have h2 : (cs.drop k).filter (fun c => listed.getD c false) = [] := by
   rw [List.filter_eq_nil_iff]
   intro c hc
   obtain ⟨j, hj, rfl⟩ := List.getElem_of_mem hc
   rw [List.length_drop] at hj
   rw [List.getElem_drop, h (k + j) (by omega)]
   simp
  rw [h1, h2, List.append_nil]
 rw [e, List.length_take]
 omega
theorem getD_set_other {listed : Array Bool} {i j : Nat} (h : i ≠ j) (b d : Bool) : (listed.setIfInBounds i b).getD j d = listed.getD j d := by
 simp [Array.getD_eq_getD_getElem?, Array.getElem?_setIfInBounds_ne h]
theorem getD_set_self {listed : Array Bool} {i : Nat} (h : listed.getD i true = false) (d : Bool) : (listed.setIfInBounds i true).getD i d = true := by
 have hlt : i < listed.size := by
  rcases Nat.lt_or_ge i listed.size with h' | h'
  ·exact h'
  ·simp [Array.getD_eq_getD_getElem?, Array.getElem?_eq_none h'] at h
 simp [Array.getD_eq_getD_getElem?, hlt]
theorem getD_unlisted {listed : Array Bool} {i : Nat} (h : listed.getD i true = false) : listed.getD i false = false := by
 rcases Nat.lt_or_ge i listed.size with h' | h'
 ·simp [Array.getD_eq_getD_getElem?, h'] at h ⊢; exact h
 ·simp [Array.getD_eq_getD_getElem?, Array.getElem?_eq_none h'] at h
theorem Closed.set {listed : Array Bool} {i : Nat} (h : Closed md ops cs listed) (hr : i ∈ Region.ready md ops listed) : Closed md ops cs (listed.setIfInBounds i true) := by
 intro c hc hl o ho e he hb
 obtain ⟨hun, o', ho', hall⟩ := mem_ready.1 hr
 have mono : ∀ j, listed.getD j false = true → (listed.setIfInBounds i true).getD j false = true := fun j hj => by
  by_cases e : i = j
  ·subst e; exact getD_set_self hun false
  ·rw [getD_set_other e]; exact hj
 by_cases e1 : i = c
 ·subst e1
  rw [ho] at ho'
  cases ho'
  exact mono _ (hall e he hb)
 ·rw [getD_set_other e1] at hl
  exact mono _ (h c hc hl o ho e he hb)
theorem StepX.wpOp (hfn : ∀ f, F.fn f) (hc : chainOk md ops cs = true) (hnd : noDefer ops = true) {listed : Array Bool} {i : Nat} {o : Oper} {v : Value} {a : Act} (hi : ops[i]? = some o) (hr : i ∈ Region.ready md ops listed) (hy : StepX md P ops S cs i o v a)
  {K : Act → World → Prop} {w : World} (hcl : Closed md ops cs listed) (hS : S (stg cs listed) w) (h : ∀ w', Closed md ops cs (listed.setIfInBounds i true) → S (stg cs (listed.setIfInBounds i true)) w' → K (a.put o.dst v) w') : wpOpIn F n P ops Q i K a w := by
 unfold wpOpIn
 simp only [hi]
 obtain ⟨hw, hv⟩ := hy
 simp only [hw, if_true, Oper.wpIn]
 refine ⟨fun f _ => hfn f, ?_⟩
 have hdef : ∀ c, o.op ≠ .defer c := by
  intro c e
  unfold noDefer at hnd
  rw [Array.all_eq_true'] at hnd
  have := hnd o (Array.mem_of_getElem? hi)
  rw [e] at this
  cases this
 rw [Oper.semAt_eq _ _ _ hdef]
 obtain ⟨hun, o', ho', hall⟩ := mem_ready.1 hr
 rw [hi] at ho'
 cases ho'
 have key : StRes S (stg cs (listed.setIfInBounds i true)) v ((execOp a.eval o).run P w) := by
  rcases hv with ⟨k, hk, hv⟩ | ⟨hni, hv⟩
  ·have hkl : k < cs.length := (List.getElem?_eq_some_iff.1 hk).1
   have hki : cs[k] = i := (List.getElem?_eq_some_iff.1 hk).2
   have e0 : listed.getD cs[k] false = false := by rw [hki]; exact getD_unlisted hun
   have up := closed_up hc hcl hkl e0
   have down := closed_down hc hcl k hkl (fun o2 ho2 e he hb => by rw [hki, hi] at ho2; cases ho2; exact hall e he hb)
   have s1 : stg cs listed = k := stg_of (Nat.le_of_lt hkl) fun j hj => by
    rcases Nat.lt_or_ge j k with hlt | hge
    ·rw [down j hlt]; exact (decide_eq_true hlt).symm
    ·have := up (j - k) (by omega)
     simp only [show k + (j - k) = j by omega] at this
     rw [this]; exact (decide_eq_false (by omega)).symm
   have s2 : stg cs (listed.setIfInBounds i true) = k + 1 := stg_of hkl fun j hj => by
    by_cases e : i = cs[j]
    ·have hjk : j = k := (List.getElem_inj (h₀ := hj) (h₁ := hkl) (chain_nodup hc)).1 (by rw [hki, e])
     subst hjk
     rw [← e, getD_set_self hun]
     exact (decide_eq_true (by omega)).symm
    ·rw [getD_set_other e]
     rcases Nat.lt_or_ge j k with hlt | hge
     ·rw [down j hlt]; exact (decide_eq_true (by omega)).symm
     ·have hne : j ≠ k := fun e2 => e (by subst e2; exact hki.symm)
      have := up (j - k) (by omega)
      simp only [show k + (j - k) = j by omega] at this
      rw [this]; exact (decide_eq_false (by omega)).symm
   rw [s2]
   rw [s1] at hS
   exact hv w hS
  ·have s1 : stg cs (listed.setIfInBounds i true) = stg cs listed := by
    unfold stg
    congr 1
    apply List.filter_congr
    intro c hcm
    rw [getD_set_other (fun e => hni (by rw [e]; exact hcm))]
   rw [s1]
   refine hv _ ?_ w hS
   unfold lastOf
   generalize hq : cs.findIdx (fun c => edge md ops c i) = q
   have hq0 : q ≤ cs.length := by rw [← hq]; exact List.findIdx_le_length
   rcases Nat.lt_or_ge q cs.length with hlt | hge
   ·have he : edge md ops cs[q] i = true := by
     have := List.findIdx_getElem (p := fun c => edge md ops c i) (xs := cs) (w := by rw [hq]; exact hlt)
     simpa only [hq] using this
    obtain ⟨o2, ho2, e, hem, hb, hon⟩ := edge_of he
    have hql : listed.getD cs[q] false = false := by
     cases hl : listed.getD cs[q] false with
     | false => rfl
     | true =>
      have := hcl _ (List.getElem_mem hlt) hl o2 ho2 e hem hb
      rw [hon, getD_unlisted hun] at this
      cases this
    have up := closed_up hc hcl hlt hql
    unfold stg
    conv => lhs; rw [← List.take_append_drop q cs]
    rw [List.filter_append, List.length_append]
    have h2 : (cs.drop q).filter (fun c => listed.getD c false) = [] := by
     rw [List.filter_eq_nil_iff]
     intro c hcm
     obtain ⟨j, hj, rfl⟩ := List.getElem_of_mem hcm
     rw [List.length_drop] at hj
     rw [List.getElem_drop, up j (by omega)]
     simp
    rw [h2]
    refine Nat.le_trans (List.length_filter_le _ _) ?_
    rw [List.length_take]
    omega
   ·have : q = cs.length := by omega
    rw [this]
    exact List.length_filter_le _ _
 unfold StRes at key
 split at key
 ·rename_i u w' hr'
  obtain ⟨rfl, h2⟩ := key
  rw [hr']
  exact h w' (hcl.set hr) h2
 ·rename_i w' hr'
  obtain ⟨rfl, h2⟩ := key
  rw [hr']
  exact h w' (hcl.set hr) h2
 ·exact key.elim
def AllX (P : Program) (md : Region.Mode) (ops : Array Oper) (Q : Exit → Act → World → Prop) (S : Nat → World → Prop) (cs : List Nat) : Nat → Array Bool → Act → Prop
 | 0, listed, a => Region.ready md ops listed = [] ∧ ∀ w, S (stg cs listed) w → Q .normal a w
 | fuel + 1, listed, a => (Region.ready md ops listed = [] → ∀ w, S (stg cs listed) w → Q .normal a w) ∧
   ∀ i ∈ Region.ready md ops listed, ∃ oi v, ops[i]? = some oi ∧ StepX md P ops S cs i oi v a ∧ AllX P md ops Q S cs fuel (listed.setIfInBounds i true) (a.put oi.dst v)
theorem AllX.sound (hfn : ∀ f, F.fn f) (hc : chainOk md ops cs = true) (hnd : noDefer ops = true) : ∀ (fuel : Nat) (listed : Array Bool) (a : Act), AllX P md ops Q S cs fuel listed a → ∀ w, Closed md ops cs listed → S (stg cs listed) w → wpAnyIn F n P md ops Q fuel listed a w
 | 0, _, _, h, w, _, hS => ⟨h.1, h.2 w hS⟩
 | fuel + 1, listed, a, h, w, hcl, hS => ⟨fun h0 => h.1 h0 w hS, fun i hi => by
   obtain ⟨oi, v, ho, hst, hr⟩ := h.2 i hi
   exact hst.wpOp hfn hc hnd ho hi hcl hS fun w' hcl' hw' => AllX.sound hfn hc hnd fuel _ _ hr w' hcl' hw'⟩
theorem AllX.take {i : Nat} {oi : Oper} {v : Value} (hi : ops[i]? = some oi) (hsel : ∀ (j : Nat) (o : Oper) cs b, ops[j]? = some o → o.op ≠ .select cs b) :
  ∀ (fuel : Nat) (listed : Array Bool) (a : Act),
   (∀ j oj, ops[j]? = some oj → j ≠ i → listed.getD j true = false → (∀ e ∈ oj.after, Region.binds md e = true → e.on ≠ i) → oi.apart ops oj = true) →
   i ∈ Region.ready md ops listed → StepX md P ops S cs i oi v a →
   AllX P md ops Q S cs fuel (listed.setIfInBounds i true) (a.put oi.dst v) → AllX P md ops Q S cs (fuel + 1) listed a := by
 intro fuel
 induction fuel with
 | zero =>
  intro listed a _ hr hy H
  refine ⟨fun h => (by rw [h] at hr; cases hr), fun j hj => ?_⟩
  by_cases hji : j = i
  ·subst hji; exact ⟨oi, v, hi, hy, H⟩
  ·have := ready_mono hj hji
   rw [H.1] at this
   cases this
 | succ fuel ih =>
  intro listed a hfree hr hy H
  refine ⟨fun h => (by rw [h] at hr; cases hr), fun j hj => ?_⟩
  by_cases hji : j = i
  ·subst hji; exact ⟨oi, v, hi, hy, H⟩
  ·obtain ⟨oj, u, hoj, hstj, hrest⟩ := H.2 j (ready_mono hj hji)
   obtain ⟨hjun, oj', hoj', hall⟩ := mem_ready.1 hj
   rw [hoj] at hoj'
   injection hoj' with hoj'
   subst hoj'
   have hnot : ∀ e ∈ oj.after, Region.binds md e = true → e.on ≠ i := fun e he hb heq => by
    have h1 := hall e he hb
    have h0 := (mem_ready.1 hr).1
    rw [heq] at h1
    rcases Nat.lt_or_ge i listed.size with h' | h'
    ·simp [h'] at h0 h1; rw [h0] at h1; cases h1
    ·simp [Array.getElem?_eq_none h'] at h1
   have hap := hfree j oj hoj hji hjun hnot
   obtain ⟨ap1, ap2, ap3⟩ := Oper.apart_spec hap
   have hstj' : StepX md P ops S cs j oj u a := hstj.of_same (execOp_put (ops := ops) oj (fun cs b => hsel j oj cs b hoj) a oi.dst v ap1).symm (wanted_put oj a oi.dst v ap1).symm
   have hsti' : StepX md P ops S cs i oi v (a.put oj.dst u) := hy.of_same (execOp_put (ops := ops) oi (fun cs b => hsel i oi cs b hi) a oj.dst u ap3) (wanted_put oi a oj.dst u ap3)
   have hfree' : ∀ k ok, ops[k]? = some ok → k ≠ i → (listed.setIfInBounds j true).getD k true = false →
     (∀ e ∈ ok.after, Region.binds md e = true → e.on ≠ i) → oi.apart ops ok = true := fun k ok hk hki hun hno => by
    refine hfree k ok hk hki ?_ hno
    by_cases hjk : j = k
    ·subst hjk; exact hjun
    ·rw [getD_set_ne true hjk] at hun; exact hun
   refine ⟨oj, u, hoj, hstj', ih (listed.setIfInBounds j true) (a.put oj.dst u) hfree' (ready_mono hr (Ne.symm hji)) hsti' ?_⟩
   rw [Array.setIfInBounds_comm _ _ hji]
   have hcm := Act.put_comm a (x := oi.dst) (y := oj.dst) v u ap2
   rw [← hcm]
   exact hrest
def ChainX (md : Region.Mode) (P : Program) (ops : Array Oper) (S : Nat → World → Prop) (cs : List Nat) : Nat → List Oper → Act → (Act → Prop) → Prop
 | _, [], a, K => K a
 | i, o :: l, a, K => ∃ v, StepX md P ops S cs i o v a ∧ ChainX md P ops S cs (i + 1) l (a.put o.dst v) K
theorem stg_all (hc : chainOk md ops cs = true) : stg cs (listedTo ops.size ops.size) = cs.length := by
 refine stg_of (Nat.le_refl _) fun j hj => ?_
 unfold chainOk at hc
 simp only [Bool.and_eq_true, List.all_eq_true, decide_eq_true_eq] at hc
 have := hc.1.2 _ (List.getElem_mem hj)
 rw [decide_eq_true hj]
 simp [listedTo, Array.getD_eq_getD_getElem?, this]
theorem AllX.of_chain (hc : chainOk md ops cs = true) (ht : textOk md ops = true) : ∀ (l : List Oper) (i : Nat) (a : Act), (∀ j, l[j]? = ops[i + j]?) → i + l.length = ops.size →
  ChainX md P ops S cs i l a (fun a' => ∀ w, S cs.length w → Q .normal a' w) → AllX P md ops Q S cs l.length (listedTo ops.size i) a := by
 unfold textOk at ht
 rw [Bool.and_eq_true, List.all_eq_true] at ht
 obtain ⟨hs, hall⟩ := ht
 intro l
 induction l with
 | nil =>
  intro i a _ hlen h
  simp at hlen
  subst hlen
  refine ⟨?_, fun w hw => h w (by rwa [stg_all hc] at hw)⟩
  rw [List.eq_nil_iff_forall_not_mem]
  intro j hj
  obtain ⟨h0, o, ho, _⟩ := mem_ready.1 hj
  have hlt := (Array.getElem?_eq_some_iff.1 ho).1
  simp [listedTo, hlt] at h0
 | cons o l ih =>
  intro i a hl hlen h
  obtain ⟨v, hst, hrest⟩ := h
  have ho : ops[i]? = some o := by simpa using (hl 0).symm
  have hlt : i < ops.size := (Array.getElem?_eq_some_iff.1 ho).1
  have hcc := hall i (List.mem_range.2 hlt)
  rw [Bool.and_eq_true] at hcc
  refine AllX.take ho (Region.noSelect_spec hs) l.length (listedTo ops.size i) a (Region.free_spec ho hcc.1) (by unfold listedTo; simpa using hcc.2) hst ?_
  rw [listedTo_succ]
  exact ih (i + 1) _ (fun j => by have := hl (j + 1); simpa [Nat.add_assoc, Nat.add_comm 1 j] using this) (by simp at hlen; omega) hrest
theorem ChainX.pure {i : Nat} {o : Oper} {l : List Oper} {a : Act} {K : Act → Prop} (v : Value) (hw : Region.wanted o (yielded ops a.tmps) = true) (hi : i ∉ cs) (hr : ∀ t, t ≤ lastOf md ops cs i → ∀ w, S t w → StRes S t v ((execOp a.eval o).run P w))
  (h : ChainX md P ops S cs (i + 1) l (a.put o.dst v) K) : ChainX md P ops S cs i (o :: l) a K := ⟨v, ⟨hw, .inr ⟨hi, hr⟩⟩, h⟩
theorem ChainX.change {i : Nat} {o : Oper} {l : List Oper} {a : Act} {K : Act → Prop} (k : Nat) (v : Value) (hw : Region.wanted o (yielded ops a.tmps) = true) (hi : cs[k]? = some i) (hr : ∀ w, S k w → StRes S (k + 1) v ((execOp a.eval o).run P w))
  (h : ChainX md P ops S cs (i + 1) l (a.put o.dst v) K) : ChainX md P ops S cs i (o :: l) a K := ⟨v, ⟨hw, .inl ⟨k, hi, hr⟩⟩, h⟩
theorem ChainX.nil {i : Nat} {a : Act} {K : Act → Prop} (h : K a) : ChainX md P ops S cs i [] a K := h
theorem StRes_value {t : Nat} {v u : Value} {w' : World} : StRes S t v (.ok (.value u) w') = (u = v ∧ S t w') := rfl
theorem StRes_skip {t : Nat} {v : Value} {w' : World} : StRes S t v (.ok .skip w') = (v = undef ∧ S t w') := rfl
theorem wpIn_region_staged {id : Nat} {l : List Oper} {a : Act} {w : World} (hfn : ∀ f, F.fn f) (hm : P.follows .mixedOrders = true) (S : Nat → World → Prop) (cs : List Nat) (hS : S 0 { w with drawn := w.drawn + 1 })
  (hc : chainOk .any l.toArray cs = true) (hnd : noDefer l.toArray = true) (ht : textOk .any l.toArray = true)
  (h : ChainX .any P l.toArray S cs 0 l a (fun a' => ∀ w, S cs.length w → Q .normal a' w)) : (Code.region id l.toArray true).wpIn F n P Q a w := by
 refine wpIn_region_any hm ?_
 have h0 : Array.replicate l.toArray.size false = listedTo l.toArray.size 0 := by
  apply Array.ext_getElem?
  intro j
  simp only [listedTo, Array.getElem?_replicate, Array.getElem?_map, Array.getElem?_range]
  split <;> simp
 rw [h0]
 have := AllX.of_chain (P := P) (ops := l.toArray) (md := .any) (Q := Q) (S := S) (cs := cs) hc ht l 0 a (fun j => by simp) (by simp) h
 have hun : ∀ c, (listedTo l.toArray.size 0).getD c false = false := fun c => by
  simp only [listedTo, Array.getD_eq_getD_getElem?, Array.getElem?_map]
  cases (Array.range l.toArray.size)[c]? <;> simp
 have hz : stg cs (listedTo l.toArray.size 0) = 0 := stg_of (Nat.zero_le _) fun j hj => by rw [hun]; simp
 exact AllX.sound hfn hc hnd _ _ _ (by simpa using this) _ (fun c _ hl => by rw [hun] at hl; cases hl) (by rw [hz]; exact hS)
end
end
section
abbrev Slots := List (Nat × Value)
def sget : Slots → Nat → Option Value
 | [], _ => none
 | (j, v) :: l, k => if j = k then some v else sget l k
def sput (l : Slots) (dst : Option Tmp) (v : Value) : Slots := match dst with | some d => (d, v) :: l | none => l
def slk (l : Slots) : Operand → Value
 | .tmp t => (sget l t).getD undef
 | .const v => v
 | .global g => .pointer (some ⟨g, 0, none⟩)
 | .func f => .func (.func f) #[] #[]
structure Fr (N : Nat) (ds : List Deferred) (l : Slots) (a : Act) : Prop where
 size : a.tmps.size = N
 defs : a.defers = ds
 know : ∀ k v, sget l k = some v → a.tmps[k]? = some v
def sknown (l : Slots) : Operand → Bool
 | .tmp t => (sget l t).isSome
 | _ => true
def sknow (l : Slots) (o : Oper) : Bool := o.op.operands.toList.all (sknown l)
def plainOp (N : Nat) (o : Oper) : Bool := (match o.op with | .select _ _ => false | .defer _ => false | _ => true) && ((match o.dst with | some d => decide (d < N) | none => true) && o.guard.isNone)
theorem plainOp_dst {N : Nat} {o : Oper} (h : plainOp N o = true) : ∀ d, o.dst = some d → d < N := by
 intro d hd
 unfold plainOp at h
 rw [hd] at h
 simp only [Bool.and_eq_true, decide_eq_true_eq] at h
 exact h.2.1
theorem plainOp_guard {N : Nat} {o : Oper} (h : plainOp N o = true) : o.guard = none := by
 unfold plainOp at h
 simp only [Bool.and_eq_true] at h
 exact Option.isNone_iff_eq_none.1 h.2.2
theorem plainOp_select {N : Nat} {o : Oper} (h : plainOp N o = true) : ∀ cs b, o.op ≠ .select cs b := by
 intro cs b e
 unfold plainOp at h
 rw [e] at h
 simp at h
theorem plainOp_wanted {N : Nat} {o : Oper} (h : plainOp N o = true) (f : Nat → Option Bool) : Region.wanted o f = true := by
 unfold Region.wanted
 rw [plainOp_guard h]
section
variable {N : Nat} {ds : List Deferred} {l l' : Slots} {a : Act}
theorem Fr.eval_of (h : Fr N ds l a) {x : Operand} (hx : sknown l x = true) : a.eval x = slk l x := by
 cases x with
 | tmp t =>
  obtain ⟨v, hv⟩ := Option.isSome_iff_exists.1 hx
  have := h.know t v hv
  simp [Act.eval, slk, hv, Array.getD_eq_getD_getElem?, this]
 | const v => rfl
 | global g => rfl
 | func f => rfl
theorem Fr.tmp (h : Fr N ds l a) {k : Nat} {v : Value} (hk : sget l k = some v) : a.eval (.tmp k) = v := by
 simp [Act.eval, Array.getD_eq_getD_getElem?, h.know k v hk]
theorem Fr.exec (h : Fr N ds l a) {o : Oper} (hk : sknow l o = true) (hs : ∀ cs b, o.op ≠ .select cs b) : execOp a.eval o = execOp (slk l) o :=
 execOp_congr o hs fun x hx => h.eval_of (by
  unfold sknow at hk
  rw [List.all_eq_true] at hk
  exact hk x (Array.mem_toList_iff.2 hx))
theorem Fr.put (h : Fr N ds l a) (dst : Option Tmp) (hd : ∀ d, dst = some d → d < N) (v : Value) : Fr N ds (sput l dst v) (a.put dst v) := by
 cases dst with
 | none => exact h
 | some d =>
  have hlt := hd d rfl
  refine ⟨by simp [Act.put, h.size], h.defs, fun k u hk => ?_⟩
  simp only [sput, sget] at hk
  simp only [Act.put]
  split at hk
  ·rename_i e
   subst e
   cases hk
   simp [h.size, hlt]
  ·rename_i e
   rw [Array.getElem?_setIfInBounds_ne e]
   exact h.know k u hk
def Sub (l : Slots) : Slots → Prop
 | [] => True
 | (k, v) :: r => sget l k = some v ∧ Sub l r
theorem Sub.get : ∀ {r : Slots}, Sub l r → ∀ k v, sget r k = some v → sget l k = some v
 | [], _, _, _, h => by cases h
 | (j, u) :: r, hs, k, v, h => by
  simp only [sget] at h
  split at h
  ·rename_i e
   subst e
   cases h
   exact hs.1
  ·exact Sub.get hs.2 k v h
theorem Fr.sub (h : Fr N ds l a) (hs : Sub l l') : Fr N ds l' a := ⟨h.size, h.defs, fun k v hk => h.know k v (hs.get k v hk)⟩
end
theorem key_lt {b : Nat} : ∀ {l : Slots}, (l.all fun p => decide (p.1 < b)) = true → ∀ k v, sget l k = some v → k < b
 | [], _, _, _, h => by cases h
 | (j, u) :: l, hl, k, v, h => by
  simp only [List.all_cons, Bool.and_eq_true, decide_eq_true_eq] at hl
  simp only [sget] at h
  split at h
  ·rename_i e; subst e; exact hl.1
  ·exact key_lt hl.2 k v h
theorem Fr.lower {N b : Nat} {ds : List Deferred} {l l' : Slots} {a : Act} (h : Fr N ds l' a) (hl : (l.all fun p => decide (p.1 < b)) = true) (he : ∀ k, k < b → sget l' k = sget l k) : Fr N ds l a :=
 ⟨h.size, h.defs, fun k v hk => h.know k v (by rw [he k (key_lt hl k v hk)]; exact hk)⟩
def uponK (P : Program) (Pn : List PanicEntry → World → Prop) (k : Value → World → Prop) : Result Next → Prop
 | .ok (.value v) w' => k v w'
 | .ok .skip w' => k undef w'
 | .ok (.enter f args) w' => Calls P f args w' fun e w'' => match e with
  | .returned v => k v w''
  | .panicked c => Pn c w''
  | .outgrown => False
 | _ => False
def swant (ops : List Oper) (l : Slots) (o : Oper) : Option Bool := match o.guard with
 | none => some true
 | some (g, want) => match (ops[g]?).bind (·.dst) with
  | some t => match sget l t with
   | some (.bool b) => some (b == want)
   | _ => none
  | none => none
def plainG (N : Nat) (o : Oper) : Bool := (match o.op with | .select _ _ => false | .defer _ => false | _ => true) && (match o.dst with | some d => decide (d < N) | none => true)
def OpsK (P : Program) (N : Nat) (Pn : List PanicEntry → World → Prop) (ops : List Oper) : List Oper → Slots → World → (Slots → World → Prop) → Prop
 | [], l, w, K => K l w
 | o :: r, l, w, K => plainG N o = true ∧ ((swant ops l o = some true ∧ sknow l o = true ∧ uponK P Pn (fun v w' => OpsK P N Pn ops r (sput l o.dst v) w' K) ((execOp (slk l) o).run P w)) ∨ (swant ops l o = some false ∧ OpsK P N Pn ops r (sput l o.dst undef) w K))
theorem plainG_dst {N : Nat} {o : Oper} (h : plainG N o = true) : ∀ d, o.dst = some d → d < N := by
 intro d hd
 unfold plainG at h
 rw [hd] at h
 simp only [Bool.and_eq_true, decide_eq_true_eq] at h
 exact h.2
theorem plainG_select {N : Nat} {o : Oper} (h : plainG N o = true) : ∀ cs b, o.op ≠ .select cs b := by
 intro cs b e
 unfold plainG at h
 rw [e] at h
 simp at h
theorem plainG_defer {N : Nat} {o : Oper} (h : plainG N o = true) : ∀ c, o.op ≠ .defer c := by
 intro c e
 unfold plainG at h
 rw [e] at h
 simp at h
theorem Fr.wanted {N : Nat} {ds : List Deferred} {l : Slots} {a : Act} (h : Fr N ds l a) {ops : List Oper} {o : Oper} {b : Bool} (hw : swant ops l o = some b) : Region.wanted o (yielded ops.toArray a.tmps) = b := by
 unfold swant at hw
 unfold Region.wanted
 split at hw
 ·rename_i hg
  rw [hg]
  exact Option.some.inj hw
 ·rename_i g want hg
  rw [hg]
  split at hw
  ·rename_i t ht
   split at hw
   ·rename_i u hu
    have := h.know t _ hu
    simp only [yielded, List.getElem?_toArray, ht, Option.bind_some, this]
    have hw := Option.some.inj hw
    rw [← hw]
    cases u <;> cases want <;> rfl
   ·cases hw
  ·cases hw
section
variable {F : Fence} {n : Nat} {P : Program} {N : Nat} {ds : List Deferred} {Q : Exit → Act → World → Prop} {Pn : List PanicEntry → World → Prop}
theorem OpsK.sound (hfn : ∀ f, F.fn f) (hdep : F.depth = none) (hC : ∀ f args w R, Calls P f args w R → CallsIn F (n - 1) P f args w R) (hP : ∀ c a w, a.defers = ds → Pn c w → Q (.panic c) a w) (ops : List Oper) : ∀ (r : List Oper) (l : Slots) (a : Act) (w : World), Fr N ds l a →
  OpsK P N Pn ops r l w (fun l' w' => ∀ a', Fr N ds l' a' → Q .normal a' w') → wpListIn F n P ops.toArray Q r a w
 | [], _, a, _, hf, h => wpListIn_nil (h a hf)
 | o :: r, l, a, w, hf, h => by
  obtain ⟨hp, h⟩ := h
  refine wpListIn_step fun K hK => ?_
  have hput := fun v => hf.put o.dst (plainG_dst hp) v
  rcases h with ⟨hw, hk, h⟩ | ⟨hw, h⟩
  ·rw [hf.wanted hw, if_pos rfl]
   refine ⟨fun f _ => hfn f, ?_⟩
   rw [Oper.semAt_eq _ _ _ (plainG_defer hp), hf.exec hk (plainG_select hp)]
   unfold uponK at h
   split at h
   ·rename_i v w' hr
    rw [hr]
    exact hK _ _ (OpsK.sound hfn hdep hC hP ops r _ _ _ (hput v) h)
   ·rename_i w' hr
    rw [hr]
    exact hK _ _ (OpsK.sound hfn hdep hC hP ops r _ _ _ (hput undef) h)
   ·rename_i f args w' hr
    rw [hr]
    refine ⟨fun hd => (by rw [hdep] at hd; cases hd), hC _ _ _ _ (h.mono ?_)⟩
    intro e w'' hq
    cases e with
    | returned v => exact hK _ _ (OpsK.sound hfn hdep hC hP ops r _ _ _ (hput v) hq)
    | panicked c => exact hP c a w'' hf.defs hq
    | outgrown => exact hq.elim
   ·exact h.elim
  ·rw [hf.wanted hw, if_neg (by simp)]
   exact ⟨fun f _ => hfn f, hK _ _ (OpsK.sound hfn hdep hC hP ops r _ _ _ (hput undef) h)⟩
theorem wpIn_region_p (hfn : ∀ f, F.fn f) (hdep : F.depth = none) (hC : ∀ f args w R, Calls P f args w R → CallsIn F (n - 1) P f args w R) {id : Nat} {r : List Oper} {l : Slots} {a : Act} {w : World} (hf : Fr N ds l a)
  (h : ∀ (K : Slots → World → Prop) (Pn : List PanicEntry → World → Prop), (∀ l' w', (∀ a', Fr N ds l' a' → Q .normal a' w') → K l' w') → (∀ c w', (∀ a', a'.defers = ds → Q (.panic c) a' w') → Pn c w') → OpsK P N Pn r r l w K) : (Code.region id r.toArray false).wpIn F n P Q a w :=
 wpIn_region_lit (OpsK.sound (Pn := fun c w' => ∀ a', a'.defers = ds → Q (.panic c) a' w') hfn hdep hC (fun _ a _ ha h => h a ha) r r l a w hf (h _ _ (fun _ _ h => h) fun _ _ h => h))
theorem wpIn_region_k (hfn : ∀ f, F.fn f) (hdep : F.depth = none) (hC : ∀ f args w R, Calls P f args w R → CallsIn F (n - 1) P f args w R) {id : Nat} {r : List Oper} {l : Slots} {a : Act} {w : World} (hf : Fr N ds l a)
  (h : ∀ K : Slots → World → Prop, (∀ l' w', (∀ a', Fr N ds l' a' → Q .normal a' w') → K l' w') → OpsK P N (fun _ _ => False) r r l w K) : (Code.region id r.toArray false).wpIn F n P Q a w :=
 wpIn_region_lit (OpsK.sound (Pn := fun _ _ => False) hfn hdep hC (fun _ _ _ _ h => h.elim) r r l a w hf (h _ fun _ _ h => h))
theorem OpsK.step {ops : List Oper} {o : Oper} {r : List Oper} {l : Slots} {w : World} {K : Slots → World → Prop} (hp : plainG N o = true) (hw : swant ops l o = some true) (hk : sknow l o = true) (h : uponK P Pn (fun v w' => OpsK P N Pn ops r (sput l o.dst v) w' K) ((execOp (slk l) o).run P w)) : OpsK P N Pn ops (o :: r) l w K := ⟨hp, .inl ⟨hw, hk, h⟩⟩
theorem OpsK.skip {ops : List Oper} {o : Oper} {r : List Oper} {l : Slots} {w : World} {K : Slots → World → Prop} (hp : plainG N o = true) (hw : swant ops l o = some false) (h : OpsK P N Pn ops r (sput l o.dst undef) w K) : OpsK P N Pn ops (o :: r) l w K := ⟨hp, .inr ⟨hw, h⟩⟩
theorem OpsK.nil {ops : List Oper} {l : Slots} {w : World} {K : Slots → World → Prop} (h : K l w) : OpsK P N Pn ops [] l w K := h
theorem uponK_value {k : Value → World → Prop} {v : Value} {w' : World} : uponK P Pn k (.ok (.value v) w') = k v w' := rfl
theorem uponK_skip {k : Value → World → Prop} {w' : World} : uponK P Pn k (.ok .skip w') = k undef w' := rfl
theorem uponK_enter {k : Value → World → Prop} {f : FuncId} {args : Array Value} {w' : World} : uponK P Pn k (.ok (.enter f args) w') = Calls P f args w' fun e w'' => match e with
  | .returned v => k v w''
  | .panicked c => Pn c w''
  | .outgrown => False := rfl
theorem callsIn_inRound {L m : Nat} {f : FuncId} {args : Array Value} {w : World} {R : Ending → World → Prop} (h : Calls P f args w R) : CallsIn (Fence.wide.inRound L) m P f args w R := (callsIn_wide (n := m)).2 h
theorem fr_of {N : Nat} {ds : List Deferred} {l : Slots} {a : Act} (hs : a.tmps.size = N) (hd : a.defers = ds) (hl : ∀ p ∈ l, a.tmps[p.1]? = some p.2) : Fr N ds l a := by
 refine ⟨hs, hd, fun k v hk => ?_⟩
 have : ∀ l : Slots, sget l k = some v → (k, v) ∈ l := by
  intro l
  induction l with
  | nil => intro h; cases h
  | cons p r ih =>
   obtain ⟨j, u⟩ := p
   intro h
   simp only [sget] at h
   split at h
   ·rename_i e; subst e; cases h; exact List.mem_cons_self
   ·exact List.mem_cons_of_mem _ (ih h)
 exact hl _ (this l hk)
def slotsOf : Nat → List Value → Slots
 | _, [] => []
 | i, v :: l => (i, v) :: slotsOf (i + 1) l
theorem mem_slotsOf : ∀ (l : List Value) (i : Nat) (p : Nat × Value), p ∈ slotsOf i l → ∃ j, p.1 = i + j ∧ l[j]? = some p.2
 | [], _, _, h => by cases h
 | v :: l, i, p, h => by
  rcases List.mem_cons.1 h with rfl | h
  ·exact ⟨0, rfl, rfl⟩
  ·obtain ⟨j, h1, h2⟩ := mem_slotsOf l (i + 1) p h
   exact ⟨j + 1, by omega, h2⟩
theorem callsK {fn : Func} {c : Code} {f : FuncId} {args : List Value} {w : World} {R : Ending → World → Prop} (hf : P.funcs[f]? = some fn) (hb : fn.body = some c) (hn : fn.ntmps = N) (ha : args.length ≤ N)
  (h : ∀ a, Fr N [] (slotsOf 0 args) a → c.wpIn Fence.wide 8 P (bodyPost P fn R) a w) : Calls P f args.toArray w R := by
 refine (callsIn_wide (n := 8)).1 (callsIn_of_wp hf hb trivial (h _ (fr_of ?_ rfl ?_)))
 ·simp [hn]; omega
 ·intro p hp
  obtain ⟨j, h1, h2⟩ := mem_slotsOf args 0 p hp
  have hj := (List.getElem?_eq_some_iff.1 h2).1
  rw [h1, Nat.zero_add]
  rw [Array.getElem?_append_left (by simpa using hj)]
  simpa using h2
theorem wideC {P : Program} {m : Nat} : ∀ f args w R, Calls P f args w R → CallsIn Fence.wide m P f args w R := fun _ _ _ _ h => callsIn_wide.2 h
theorem Fr.ret0 {fn : Func} {R : Ending → World → Prop} {l : Slots} {a : Act} {w : World} (h : Fr N [] l a) (hr : fn.results = #[]) (hR : R (.returned (.tuple #[])) w) : bodyPost P fn R .ret a w := bodyPost_ret (results_none hr _ _ _) h.defs hR
theorem Fr.end0 {fn : Func} {R : Ending → World → Prop} {l : Slots} {a : Act} {w : World} (h : Fr N [] l a) (hr : fn.results = #[]) (hR : R (.returned (.tuple #[])) w) : bodyPost P fn R .normal a w := bodyPost_end (results_none hr _ _ _) h.defs hR
theorem Fr.getD {l : Slots} {a : Act} (h : Fr N ds l a) {k : Nat} {v : Value} (hk : sget l k = some v) : a.tmps.getD k undef = v := h.tmp hk
theorem Fr.ret1 {fn : Func} {R : Ending → World → Prop} {l : Slots} {a : Act} {w : World} {t : Nat} {v : Value} (h : Fr N [] l a) (hr : fn.results = #[.tmp t]) (hk : sget l t = some v) (hR : R (.returned v) w) : bodyPost P fn R .ret a w :=
 bodyPost_ret (results_tmp hr _ _ _) h.defs (by rw [h.getD hk]; exact hR)
theorem Fr.ret2 {fn : Func} {R : Ending → World → Prop} {l : Slots} {a : Act} {w : World} {t u : Nat} {v x : Value} (h : Fr N [] l a) (hr : fn.results = #[.tmp t, .tmp u]) (hk : sget l t = some v) (hk2 : sget l u = some x) (hR : R (.returned (.tuple #[v, x])) w) : bodyPost P fn R .ret a w :=
 bodyPost_ret (results_tmp2 hr _ _ _) h.defs (by rw [h.getD hk, h.getD hk2]; exact hR)
def ChainK (md : Region.Mode) (P : Program) (N : Nat) (ops : Array Oper) (S : Nat → World → Prop) (cs : List Nat) : Nat → List Oper → Slots → (Slots → Prop) → Prop
 | _, [], l, K => K l
 | i, o :: r, l, K => ∃ v, plainOp N o = true ∧ sknow l o = true ∧
   ((∃ k, cs[k]? = some i ∧ ∀ w, S k w → StRes S (k + 1) v ((execOp (slk l) o).run P w)) ∨ (i ∉ cs ∧ ∀ t, t ≤ lastOf md ops cs i → ∀ w, S t w → StRes S t v ((execOp (slk l) o).run P w))) ∧ ChainK md P N ops S cs (i + 1) r (sput l o.dst v) K
theorem ChainK.sound {md : Region.Mode} {ops : Array Oper} {S : Nat → World → Prop} {cs : List Nat} {K : Slots → Prop} : ∀ (r : List Oper) (i : Nat) (l : Slots) (a : Act), Fr N ds l a → ChainK md P N ops S cs i r l K →
  ChainX md P ops S cs i r a (fun a' => ∃ l', Fr N ds l' a' ∧ K l')
 | [], _, l, _, hf, h => ⟨l, hf, h⟩
 | o :: r, i, l, a, hf, h => by
  obtain ⟨v, hp, hk, hv, hr⟩ := h
  refine ⟨v, ⟨plainOp_wanted hp _, ?_⟩, ChainK.sound r (i + 1) _ _ (hf.put o.dst (plainOp_dst hp) v) hr⟩
  rw [hf.exec hk (plainOp_select hp)]
  exact hv
theorem ChainX.mono {md : Region.Mode} {ops : Array Oper} {S : Nat → World → Prop} {cs : List Nat} {K K' : Act → Prop} (hK : ∀ a, K a → K' a) : ∀ (r : List Oper) (i : Nat) (a : Act), ChainX md P ops S cs i r a K → ChainX md P ops S cs i r a K'
 | [], _, _, h => hK _ h
 | _ :: r, i, _, ⟨v, hs, h⟩ => ⟨v, hs, ChainX.mono hK r (i + 1) _ h⟩
theorem ChainK.pure {md : Region.Mode} {ops : Array Oper} {S : Nat → World → Prop} {cs : List Nat} {i : Nat} {o : Oper} {r : List Oper} {l : Slots} {K : Slots → Prop} (v : Value) (hp : plainOp N o = true) (hk : sknow l o = true) (hi : i ∉ cs)
  (hr : ∀ t, t ≤ lastOf md ops cs i → ∀ w, S t w → StRes S t v ((execOp (slk l) o).run P w)) (h : ChainK md P N ops S cs (i + 1) r (sput l o.dst v) K) : ChainK md P N ops S cs i (o :: r) l K := ⟨v, hp, hk, .inr ⟨hi, hr⟩, h⟩
theorem ChainK.change {md : Region.Mode} {ops : Array Oper} {S : Nat → World → Prop} {cs : List Nat} {i : Nat} {o : Oper} {r : List Oper} {l : Slots} {K : Slots → Prop} (k : Nat) (v : Value) (hp : plainOp N o = true) (hk : sknow l o = true) (hi : cs[k]? = some i)
  (hr : ∀ w, S k w → StRes S (k + 1) v ((execOp (slk l) o).run P w)) (h : ChainK md P N ops S cs (i + 1) r (sput l o.dst v) K) : ChainK md P N ops S cs i (o :: r) l K := ⟨v, hp, hk, .inl ⟨k, hi, hr⟩, h⟩
theorem wpIn_region_KX (hfn : ∀ f, F.fn f) (hm : P.follows .mixedOrders = true) {id : Nat} {r : List Oper} {l : Slots} {a : Act} {w : World} (hf : Fr N ds l a) (S : Nat → World → Prop) (cs : List Nat) (hS : S 0 { w with drawn := w.drawn + 1 })
  (hc : chainOk .any r.toArray cs = true) (hnd : noDefer r.toArray = true) (ht : textOk .any r.toArray = true)
  (h : ChainK .any P N r.toArray S cs 0 r l (fun l' => ∀ a' w', Fr N ds l' a' → S cs.length w' → Q .normal a' w')) : (Code.region id r.toArray true).wpIn F n P Q a w :=
 wpIn_region_staged hfn hm S cs hS hc hnd ht (ChainX.mono (fun _ ⟨_, hf', hq⟩ w' hw' => hq _ w' hf' hw') r 0 a (ChainK.sound r 0 l a hf h))
end
section
variable {P : Program} {N : Nat} {ds : List Deferred}
def ChainC (P : Program) (N : Nat) (ops : List Oper) (S : World → Prop) : List Oper → Slots → (Slots → Prop) → Prop
 | [], l, K => K l
 | o :: r, l, K => ∃ v, plainG N o = true ∧ ((swant ops l o = some true ∧ sknow l o = true ∧ ∀ w, S w → SteadyRes P S v ((execOp (slk l) o).run P w)) ∨ (swant ops l o = some false ∧ v = undef)) ∧ ChainC P N ops S r (sput l o.dst v) K
theorem ChainC.sound {ops : List Oper} {S : World → Prop} {K : Slots → Prop} : ∀ (r : List Oper) (l : Slots) (a : Act), Fr N ds l a → ChainC P N ops S r l K → Chain P ops.toArray S r a (fun a' => ∃ l', Fr N ds l' a' ∧ K l')
 | [], l, _, hf, h => ⟨l, hf, h⟩
 | o :: r, l, a, hf, h => by
  obtain ⟨v, hp, hv, hr⟩ := h
  refine ⟨v, ?_, ChainC.sound r _ _ (hf.put o.dst (plainG_dst hp) v) hr⟩
  rcases hv with ⟨hw, hk, hv⟩ | ⟨hw, rfl⟩
  ·refine .inl ⟨hf.wanted hw, ?_⟩
   rw [hf.exec hk (plainG_select hp)]
   exact hv
  ·exact .inr ⟨hf.wanted hw, rfl⟩
theorem Chain.mono {ops : Array Oper} {S : World → Prop} {K K' : Act → Prop} (hK : ∀ a, K a → K' a) : ∀ (r : List Oper) (a : Act), Chain P ops S r a K → Chain P ops S r a K'
 | [], _, h => hK _ h
 | _ :: r, _, ⟨v, hs, h⟩ => ⟨v, hs, Chain.mono hK r _ h⟩
theorem ChainC.val {ops : List Oper} {S : World → Prop} {o : Oper} {r : List Oper} {l : Slots} {K : Slots → Prop} (v : Value) (hp : plainG N o = true) (hw : swant ops l o = some true) (hk : sknow l o = true) (hr : ∀ w, S w → SteadyRes P S v ((execOp (slk l) o).run P w)) (h : ChainC P N ops S r (sput l o.dst v) K) : ChainC P N ops S (o :: r) l K := ⟨v, hp, .inl ⟨hw, hk, hr⟩, h⟩
theorem ChainC.skip {ops : List Oper} {S : World → Prop} {o : Oper} {r : List Oper} {l : Slots} {K : Slots → Prop} (hp : plainG N o = true) (hw : swant ops l o = some false) (h : ChainC P N ops S r (sput l o.dst undef) K) : ChainC P N ops S (o :: r) l K := ⟨undef, hp, .inr ⟨hw, rfl⟩, h⟩
theorem ChainC.nil {ops : List Oper} {S : World → Prop} {l : Slots} {K : Slots → Prop} (h : K l) : ChainC P N ops S [] l K := h
theorem wpIn_region_S {n id : Nat} {r : List Oper} {l : Slots} {a : Act} {w : World} {Q : Exit → Act → World → Prop} (hm : P.follows .mixedOrders = true) (hf : Fr N ds l a) (S : World → Prop) (hS : S { w with drawn := w.drawn + 1 }) (ht : textOk .any r.toArray = true)
  (h : ∀ K : Slots → Prop, (∀ l', (∀ a' w', Fr N ds l' a' → S w' → Q .normal a' w') → K l') → ChainC P N r S r l K) : (Code.region id r.toArray true).wpIn Fence.wide n P Q a w :=
 wpIn_wide.2 (wp_region_steady hm S hS ht (Chain.mono (fun _ ⟨_, hf', hq⟩ w' hw' => hq _ w' hf' hw') r a (ChainC.sound r l a hf (h _ fun _ h => h))))
end
end
section
section
variable {n : Nat} {P : Program} {ops : Array Oper} {Q : Exit → Act → World → Prop} {md : Region.Mode} {S : World → Prop}
def PureRes (v : Value) (w : World) : Result Next → Prop
 | .ok (.value u) w' => u = v ∧ w' = w
 | .ok .skip w' => v = undef ∧ w' = w
 | _ => False
def PureAt (P : Program) (ops : Array Oper) (S : World → Prop) (o : Oper) (v : Value) (a : Act) : Prop :=
 (Region.wanted o (yielded ops a.tmps) = true ∧ ∀ w, S w → PureRes v w ((execOp a.eval o).run P w)) ∨ (Region.wanted o (yielded ops a.tmps) = false ∧ v = undef)
theorem PureAt.of_same {o : Oper} {v : Value} {a a' : Act} (h : PureAt P ops S o v a) (he : execOp a'.eval o = execOp a.eval o)
  (hw : Region.wanted o (yielded ops a'.tmps) = Region.wanted o (yielded ops a.tmps)) : PureAt P ops S o v a' := by
 unfold PureAt at *
 rw [he, hw]
 exact h
theorem PureAt.wpOp {i : Nat} {o : Oper} {v : Value} {a : Act} (hi : ops[i]? = some o) (hd : ∀ c, o.op ≠ .defer c) (hy : PureAt P ops S o v a) {K : Act → World → Prop} {w : World} (hS : S w) (h : K (a.put o.dst v) w) :
  wpOpIn Fence.wide n P ops Q i K a w := by
 unfold wpOpIn
 simp only [hi]
 rcases hy with ⟨hw, hv⟩ | ⟨hw, rfl⟩
 ·simp only [hw, if_true, Oper.wpIn]
  refine ⟨fun f _ => trivial, ?_⟩
  rw [Oper.semAt_eq _ _ _ hd]
  have h1 := hv w hS
  unfold PureRes at h1
  split at h1
  ·rename_i u w' hr
   obtain ⟨rfl, rfl⟩ := h1
   rw [hr]
   exact h
  ·rename_i w' hr
   obtain ⟨rfl, rfl⟩ := h1
   rw [hr]
   exact h
  ·exact h1.elim
 ·simp only [hw, Bool.false_eq_true, if_false]
  exact ⟨fun f _ => trivial, h⟩
theorem wpOpIn_over {j : Nat} {oi oj : Oper} {v : Value} (hj : ops[j]? = some oj) (hap : oi.apart ops oj = true) (hsi : ∀ cs b, oi.op ≠ .select cs b) (hsj : ∀ cs b, oj.op ≠ .select cs b) (hdj : ∀ c, oj.op ≠ .defer c)
  (hQ : ∀ c a a' w, a'.defers = a.defers → Q (.panic c) a w → Q (.panic c) a' w) {K : Act → World → Prop} {a : Act} {w : World}
  (hy : PureAt P ops S oi v a) (h : wpOpIn Fence.wide n P ops Q j K (a.put oi.dst v) w) :
  wpOpIn Fence.wide n P ops Q j (fun a' w' => PureAt P ops S oi v a' ∧ K (a'.put oi.dst v) w') a w := by
 obtain ⟨h1, h2, h3⟩ := Oper.apart_spec hap
 have keep : ∀ (a : Act), PureAt P ops S oi v a → ∀ u, PureAt P ops S oi v (a.put oj.dst u) := fun a hy u =>
  hy.of_same (execOp_put oi hsi a oj.dst u h3) (wanted_put oi a oj.dst u h3)
 have hdf : ∀ (a : Act), a.defers = (a.put oi.dst v).defers := fun a => by unfold Act.put; split <;> rfl
 unfold wpOpIn at *
 simp only [hj] at *
 rw [wanted_put oj a oi.dst v h1] at h
 split
 ·rename_i hw
  simp only [hw, if_true] at h
  unfold Oper.wpIn at *
  refine ⟨fun f _ => trivial, ?_⟩
  have h := h.2
  rw [Oper.semAt_eq _ _ _ hdj, execOp_put oj hsj a oi.dst v h1] at h
  rw [Oper.semAt_eq _ _ _ hdj]
  generalize (execOp a.eval oj).run P w = r at *
  cases r with
  | ok x w' =>
   cases x <;> simp only [Oper.uponIn] at h ⊢
   case value u => exact ⟨keep a hy u, by rw [← Act.put_comm a v u h2]; exact h⟩
   case skip => exact ⟨keep a hy _, by rw [← Act.put_comm a v undef h2]; exact h⟩
   case defer d =>
    refine ⟨?_, ?_⟩
    ·exact keep { a with defers := d :: a.defers } (hy.of_same rfl rfl) _
    ·rw [← Act.put_comm _ v undef h2, ← Act.put_defers]
     exact h
   case enter f args =>
    refine ⟨h.1, CallsIn.mono h.2 fun e w'' he => ?_⟩
    cases e with
    | returned u => exact ⟨keep a hy u, by rw [← Act.put_comm a v u h2]; exact he⟩
    | panicked c => exact hQ _ _ _ _ (hdf a) he
    | outgrown => exact he
   case row row args => exact ⟨h.1, RowsIn.mono h.2 fun u w'' he => ⟨keep a hy u, by rw [← Act.put_comm a v u h2]; exact he⟩⟩
   case round l f tmps assign body =>
    refine ⟨h.1, RoundIn.mono h.2 fun e w'' he => ?_⟩
    cases e with
    | returned u => exact ⟨keep a hy u, by rw [← Act.put_comm a v u h2]; exact he⟩
    | panicked c => exact hQ _ _ _ _ (hdf a) he
    | outgrown => exact he
  | halt x w' =>
   cases x <;> simp only [Oper.uponIn] at h ⊢
   exact hQ _ _ _ _ (hdf a) h
 ·rename_i hw
  simp only [hw, Bool.false_eq_true, if_false] at h
  exact ⟨fun f _ => trivial, keep a hy _, by rw [← Act.put_comm a v undef h2]; exact h.2⟩
def AllM (n : Nat) (P : Program) (md : Region.Mode) (ops : Array Oper) (Q : Exit → Act → World → Prop) (S : World → Prop) : Nat → Array Bool → Act → World → Prop
 | 0, listed, a, w => S w ∧ Region.ready md ops listed = [] ∧ Q .normal a w
 | fuel + 1, listed, a, w => S w ∧ (Region.ready md ops listed = [] → Q .normal a w) ∧
   ∀ i ∈ Region.ready md ops listed, wpOpIn Fence.wide n P ops Q i (AllM n P md ops Q S fuel (listed.setIfInBounds i true)) a w
theorem AllM.world {fuel : Nat} {listed : Array Bool} {a : Act} {w : World} (h : AllM n P md ops Q S fuel listed a w) : S w := by
 cases fuel <;> exact h.1
theorem AllM.sound : ∀ (fuel : Nat) (listed : Array Bool) (a : Act) (w : World), AllM n P md ops Q S fuel listed a w → wpAnyIn Fence.wide n P md ops Q fuel listed a w
 | 0, _, _, _, h => ⟨h.2.1, h.2.2⟩
 | fuel + 1, _, _, _, h => ⟨h.2.1, fun i hi => wpOpIn_mono (AllM.sound fuel _) (h.2.2 i hi)⟩
theorem AllM.take {i : Nat} {oi : Oper} {v : Value} (hi : ops[i]? = some oi) (hsel : ∀ (j : Nat) (o : Oper) cs b, ops[j]? = some o → o.op ≠ .select cs b) (hdef : ∀ (j : Nat) (o : Oper) c, ops[j]? = some o → o.op ≠ .defer c)
  (hQ : ∀ c a a' w, a'.defers = a.defers → Q (.panic c) a w → Q (.panic c) a' w) :
  ∀ (fuel : Nat) (listed : Array Bool) (a : Act) (w : World),
   (∀ j oj, ops[j]? = some oj → j ≠ i → listed.getD j true = false → (∀ e ∈ oj.after, Region.binds md e = true → e.on ≠ i) → oi.apart ops oj = true) →
   i ∈ Region.ready md ops listed → PureAt P ops S oi v a →
   AllM n P md ops Q S fuel (listed.setIfInBounds i true) (a.put oi.dst v) w → AllM n P md ops Q S (fuel + 1) listed a w := by
 intro fuel
 induction fuel with
 | zero =>
  intro listed a w _ hr hy H
  refine ⟨H.1, fun h => (by rw [h] at hr; cases hr), fun j hj => ?_⟩
  by_cases hji : j = i
  ·subst hji; exact hy.wpOp hi (fun c => hdef j oi c hi) H.1 H
  ·have := ready_mono hj hji
   rw [H.2.1] at this
   cases this
 | succ fuel ih =>
  intro listed a w hfree hr hy H
  refine ⟨H.1, fun h => (by rw [h] at hr; cases hr), fun j hj => ?_⟩
  by_cases hji : j = i
  ·subst hji; exact hy.wpOp hi (fun c => hdef j oi c hi) H.1 H
  ·have hst := H.2.2 j (ready_mono hj hji)
   obtain ⟨hjun, oj, hoj, hall⟩ := mem_ready.1 hj
   have hnot : ∀ e ∈ oj.after, Region.binds md e = true → e.on ≠ i := fun e he hb heq => by
    have h1 := hall e he hb
    have h0 := (mem_ready.1 hr).1
    rw [heq] at h1
    rcases Nat.lt_or_ge i listed.size with h' | h'
    ·simp [h'] at h0 h1; rw [h0] at h1; cases h1
    ·simp [Array.getElem?_eq_none h'] at h1
   have hap := hfree j oj hoj hji hjun hnot
   have hfree' : ∀ k ok, ops[k]? = some ok → k ≠ i → (listed.setIfInBounds j true).getD k true = false →
     (∀ e ∈ ok.after, Region.binds md e = true → e.on ≠ i) → oi.apart ops ok = true := fun k ok hk hki hun hno => by
    refine hfree k ok hk hki ?_ hno
    by_cases hjk : j = k
    ·subst hjk; exact hjun
    ·rw [getD_set_ne true hjk] at hun; exact hun
   refine wpOpIn_mono (fun a' w' hq => ?_) (wpOpIn_over hoj hap (fun cs b => hsel i oi cs b hi) (fun cs b => hsel j oj cs b hoj) (fun c => hdef j oj c hoj) hQ hy hst)
   refine ih (listed.setIfInBounds j true) a' w' hfree' (ready_mono hr (Ne.symm hji)) hq.1 ?_
   rw [Array.setIfInBounds_comm _ _ hji]
   exact hq.2
end
section
variable {n : Nat} {P : Program} {N : Nat} {ds : List Deferred} {Q : Exit → Act → World → Prop} {Pn : List PanicEntry → World → Prop} {S : World → Prop}
def MixK (P : Program) (N : Nat) (Pn : List PanicEntry → World → Prop) (S : World → Prop) (ops : List Oper) : List (Nat × Bool) → Slots → World → (Slots → World → Prop) → Prop
 | [], l, w, K => K l w
 | (i, true) :: r, l, w, K => ∃ o, ops[i]? = some o ∧ plainG N o = true ∧ swant ops l o = some true ∧ sknow l o = true ∧ uponK P Pn (fun v w' => S w' ∧ MixK P N Pn S ops r (sput l o.dst v) w' K) ((execOp (slk l) o).run P w)
 | (i, false) :: r, l, w, K => ∃ o v, ops[i]? = some o ∧ plainG N o = true ∧ ((swant ops l o = some true ∧ sknow l o = true ∧ ∀ w, S w → PureRes v w ((execOp (slk l) o).run P w)) ∨ (swant ops l o = some false ∧ v = undef)) ∧ MixK P N Pn S ops r (sput l o.dst v) w K
def mixOk (md : Region.Mode) (ops : Array Oper) : List (Nat × Bool) → Array Bool → Bool
 | [], listed => (Region.ready md ops listed).isEmpty
 | (i, true) :: r, listed => (Region.ready md ops listed == [i]) && mixOk md ops r (listed.setIfInBounds i true)
 | (i, false) :: r, listed => (Region.ready md ops listed).contains i && (Region.free md ops listed i && mixOk md ops r (listed.setIfInBounds i true))
def noDef (ops : Array Oper) : Bool := ops.all fun o => match o.op with | .defer _ => false | _ => true
theorem noDef_spec {ops : Array Oper} (h : noDef ops = true) : ∀ (j : Nat) (o : Oper) c, ops[j]? = some o → o.op ≠ .defer c := by
 intro j o c hj e
 unfold noDef at h
 rw [Array.all_eq_true'] at h
 have := h o (Array.mem_of_getElem? hj)
 rw [e] at this
 cases this
theorem MixK.sound {md : Region.Mode} {ops : List Oper} (hs : Region.noSelect ops.toArray = true) (hd : noDef ops.toArray = true) (hQ : ∀ c a a' w, a'.defers = a.defers → Q (.panic c) a w → Q (.panic c) a' w) (hP : ∀ c a w, a.defers = ds → Pn c w → Q (.panic c) a w) :
  ∀ (ord : List (Nat × Bool)) (listed : Array Bool) (l : Slots) (a : Act) (w : World), mixOk md ops.toArray ord listed = true → Fr N ds l a → S w →
   MixK P N Pn S ops ord l w (fun l' w' => ∀ a', Fr N ds l' a' → Q .normal a' w') → AllM n P md ops.toArray Q S ord.length listed a w
 | [], listed, l, a, w, hok, hf, hS, h => ⟨hS, List.isEmpty_iff.1 hok, h a hf⟩
 | (i, true) :: r, listed, l, a, w, hok, hf, hS, h => by
  obtain ⟨o, ho, hp, hw, hk, hu⟩ := h
  simp only [mixOk, Bool.and_eq_true, beq_iff_eq] at hok
  obtain ⟨hr, hok⟩ := hok
  refine ⟨hS, fun h0 => (by rw [h0] at hr; cases hr), fun j hj => ?_⟩
  rw [hr] at hj
  obtain rfl := List.mem_singleton.1 hj
  unfold wpOpIn
  have ho' : ops.toArray[j]? = some o := by simpa using ho
  simp only [ho', hf.wanted hw, if_true, Oper.wpIn]
  refine ⟨fun f _ => trivial, ?_⟩
  rw [Oper.semAt_eq _ _ _ (plainG_defer hp), hf.exec hk (plainG_select hp)]
  unfold uponK at hu
  split at hu
  ·rename_i v w' hr'
   rw [hr']
   exact MixK.sound hs hd hQ hP r _ _ _ _ hok (hf.put o.dst (plainG_dst hp) v) hu.1 hu.2
  ·rename_i w' hr'
   rw [hr']
   exact MixK.sound hs hd hQ hP r _ _ _ _ hok (hf.put o.dst (plainG_dst hp) undef) hu.1 hu.2
  ·rename_i f args w' hr'
   rw [hr']
   refine ⟨fun hd => (by cases hd), callsIn_wide.2 (hu.mono ?_)⟩
   intro e w'' hq
   cases e with
   | returned v => exact MixK.sound hs hd hQ hP r _ _ _ _ hok (hf.put o.dst (plainG_dst hp) v) hq.1 hq.2
   | panicked c => exact hP c a w'' hf.defs hq
   | outgrown => exact hq.elim
  ·exact hu.elim
 | (i, false) :: r, listed, l, a, w, hok, hf, hS, h => by
  obtain ⟨o, v, ho, hp, hv, hr⟩ := h
  simp only [mixOk, Bool.and_eq_true] at hok
  obtain ⟨hrd, hfr, hok⟩ := hok
  have ho' : ops.toArray[i]? = some o := by simpa using ho
  refine AllM.take ho' (Region.noSelect_spec hs) (noDef_spec hd) hQ r.length listed a w (Region.free_spec ho' hfr) (by simpa using hrd) ?_ (MixK.sound hs hd hQ hP r _ _ _ _ hok (hf.put o.dst (plainG_dst hp) v) hS hr)
  rcases hv with ⟨hw, hk, hv⟩ | ⟨hw, rfl⟩
  ·refine .inl ⟨hf.wanted hw, ?_⟩
   rw [hf.exec hk (plainG_select hp)]
   exact hv
  ·exact .inr ⟨hf.wanted hw, rfl⟩
theorem wpIn_region_mix {id : Nat} {r : List Oper} {l : Slots} {a : Act} {w : World} (hm : P.follows .mixedOrders = true) (hf : Fr N ds l a) (ord : List (Nat × Bool)) (S : World → Prop) (hS : S { w with drawn := w.drawn + 1 }) (hlen : ord.length = r.length)
  (hok : mixOk .any r.toArray ord (Array.replicate r.toArray.size false) = true) (hs : Region.noSelect r.toArray = true) (hd : noDef r.toArray = true) (hQ : ∀ c a a' w, a'.defers = a.defers → Q (.panic c) a w → Q (.panic c) a' w)
  (h : ∀ (K : Slots → World → Prop) (Pn : List PanicEntry → World → Prop), (∀ l' w', (∀ a', Fr N ds l' a' → Q .normal a' w') → K l' w') → (∀ c w', (∀ a', a'.defers = ds → Q (.panic c) a' w') → Pn c w') → MixK P N Pn S r ord l { w with drawn := w.drawn + 1 } K) :
  (Code.region id r.toArray true).wpIn Fence.wide n P Q a w := by
 refine wpIn_region_any hm ?_
 have := AllM.sound _ _ _ _ (MixK.sound (n := n) (md := .any) (Pn := fun c w' => ∀ a', a'.defers = ds → Q (.panic c) a' w') hs hd hQ (fun _ a _ ha h => h a ha) ord (Array.replicate r.toArray.size false) l a _ hok hf hS (h _ _ (fun _ _ h => h) fun _ _ h => h))
 rw [hlen] at this
 simpa using this
theorem MixK.call {ops : List Oper} {i : Nat} {o : Oper} {r : List (Nat × Bool)} {l : Slots} {w : World} {K : Slots → World → Prop} (ho : ops[i]? = some o) (hp : plainG N o = true) (hw : swant ops l o = some true) (hk : sknow l o = true)
  (h : uponK P Pn (fun v w' => S w' ∧ MixK P N Pn S ops r (sput l o.dst v) w' K) ((execOp (slk l) o).run P w)) : MixK P N Pn S ops ((i, true) :: r) l w K := ⟨o, ho, hp, hw, hk, h⟩
theorem MixK.read {ops : List Oper} {i : Nat} {o : Oper} {r : List (Nat × Bool)} {l : Slots} {w : World} {K : Slots → World → Prop} (v : Value) (ho : ops[i]? = some o) (hp : plainG N o = true) (hw : swant ops l o = some true) (hk : sknow l o = true)
  (hv : ∀ w, S w → PureRes v w ((execOp (slk l) o).run P w)) (h : MixK P N Pn S ops r (sput l o.dst v) w K) : MixK P N Pn S ops ((i, false) :: r) l w K := ⟨o, v, ho, hp, .inl ⟨hw, hk, hv⟩, h⟩
theorem MixK.skip {ops : List Oper} {i : Nat} {o : Oper} {r : List (Nat × Bool)} {l : Slots} {w : World} {K : Slots → World → Prop} (ho : ops[i]? = some o) (hp : plainG N o = true) (hw : swant ops l o = some false)
  (h : MixK P N Pn S ops r (sput l o.dst undef) w K) : MixK P N Pn S ops ((i, false) :: r) l w K := ⟨o, undef, ho, hp, .inr ⟨hw, rfl⟩, h⟩
theorem MixK.nil {ops : List Oper} {l : Slots} {w : World} {K : Slots → World → Prop} (h : K l w) : MixK P N Pn S ops [] l w K := h
theorem PureRes_value {v u : Value} {w w' : World} : PureRes v w (.ok (.value u) w') = (u = v ∧ w' = w) := rfl
theorem PureRes_skip {v : Value} {w w' : World} : PureRes v w (.ok .skip w') = (v = undef ∧ w' = w) := rfl
end
end
end Go.Proofs.YtlhkeohcickiaaaGreatDoor.H

