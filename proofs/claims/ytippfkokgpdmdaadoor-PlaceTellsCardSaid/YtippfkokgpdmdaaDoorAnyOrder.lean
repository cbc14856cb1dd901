/-
  A region that draws its order, where what an operation yields need not be one value: a relation for each operation, one step for each, whatever the order.
-/
import Derived.Test.YtippfkokgpdmdaaDoorLib
import Derived.OrdersIn
import Derived.OwnWalkIn
import Derived.RangeFuncCalls
namespace Go.Proofs.YtippfkokgpdmdaaDoor
open Go Go.RowKit
set_option linter.unusedVariables false

/-- The frame with what the listed operations yielded. -/
def putL (vals : Nat → Value) (listed : Array Bool) : List Oper → Nat → Act → Act
  | [], _, a => a
  | o :: rest, j, a => putL vals listed rest (j + 1) (if listed.getD j false = true then a.put o.dst (vals j) else a)
/-- The frame with what all yielded. -/
def putAll (vals : Nat → Value) : List Oper → Nat → Act → Act
  | [], _, a => a
  | o :: rest, j, a => putAll vals rest (j + 1) (a.put o.dst (vals j))
/-- No two yield into one slot. -/
def ApartD (l : List Oper) : Prop := l.Pairwise fun o o' => ∀ d, o.dst = some d → o'.dst ≠ some d
section
variable {vals vals' : Nat → Value} {listed listed' : Array Bool}
theorem putL_congr : ∀ (l : List Oper) (j : Nat) (a : Act), (∀ i, j ≤ i → vals i = vals' i ∧ listed.getD i false = listed'.getD i false) → putL vals listed l j a = putL vals' listed' l j a
  | [], _, _, _ => rfl
  | o :: l, j, a, h => by
    unfold putL
    rw [(h j (Nat.le_refl _)).1, (h j (Nat.le_refl _)).2]
    exact putL_congr l (j + 1) _ (fun i hi => h i (by omega))
theorem putL_all : ∀ (l : List Oper) (j : Nat) (a : Act), (∀ i, j ≤ i → i < j + l.length → listed.getD i false = true) → putL vals listed l j a = putAll vals l j a
  | [], _, _, _ => rfl
  | o :: l, j, a, h => by
    unfold putL putAll
    rw [if_pos (h j (Nat.le_refl _) (by simp))]
    exact putL_all l (j + 1) _ (fun i h1 h2 => h i (by omega) (by simp only [List.length_cons]; omega))
theorem putL_none : ∀ (l : List Oper) (j : Nat) (a : Act), (∀ i, listed.getD i false = false) → putL vals listed l j a = a
  | [], _, _, _ => rfl
  | o :: l, j, a, h => by
    unfold putL
    rw [h j, if_neg (by simp)]
    exact putL_none l (j + 1) a h
theorem putL_put (x : Option Tmp) (v : Value) : ∀ (l : List Oper) (j : Nat) (a : Act), (∀ o ∈ l, ∀ d, x = some d → o.dst ≠ some d) → (putL vals listed l j a).put x v = putL vals listed l j (a.put x v)
  | [], _, _, _ => rfl
  | o :: l, j, a, h => by
    unfold putL
    rw [putL_put x v l (j + 1) _ (fun o' ho' => h o' (List.mem_cons_of_mem _ ho'))]
    congr 1
    split
    · exact Act.put_comm a _ _ (fun d hd hx => h o List.mem_cons_self d hx hd)
    · rfl
theorem putL_set : ∀ (l : List Oper) (k j : Nat) (o : Oper) (a : Act) (v : Value), ApartD l → l[k]? = some o → j + k < listed.size → listed.getD (j + k) false = false →
    (putL vals listed l j a).put o.dst v = putL (fun i => if i = j + k then v else vals i) (listed.setIfInBounds (j + k) true) l j a
  | [], _, _, _, _, _, _, h, _, _ => by simp at h
  | o0 :: l, 0, j, o, a, v, hd, h, hs, hu => by
    simp at h
    subst h
    unfold putL
    simp only [Nat.add_zero] at hs hu ⊢
    rw [hu, if_neg (by simp)]
    rw [putL_put o0.dst v l (j + 1) a (fun o' ho' d hd' => (List.rel_of_pairwise_cons hd ho') d hd')]
    rw [show (listed.setIfInBounds j true).getD j false = true by simp [hs]]
    simp only [if_true]
    refine putL_congr l (j + 1) _ (fun i hi => ⟨by rw [if_neg (by omega)], ?_⟩)
    simp [Array.getD_eq_getD_getElem?, Array.getElem?_setIfInBounds_ne (show j ≠ i by omega)]
  | o0 :: l, k + 1, j, o, a, v, hd, h, hs, hu => by
    have h' : l[k]? = some o := by simpa using h
    have e : j + (k + 1) = j + 1 + k := by omega
    rw [e] at hs hu ⊢
    unfold putL
    rw [putL_set l k (j + 1) o _ v (List.Pairwise.of_cons hd) h' hs hu]
    rw [if_neg (show ¬ j = j + 1 + k by omega)]
    have : (listed.setIfInBounds (j + 1 + k) true).getD j false = listed.getD j false := by
      simp [Array.getD_eq_getD_getElem?, Array.getElem?_setIfInBounds_ne (show j + 1 + k ≠ j by omega)]
    rw [this]
theorem putL_eval_other (d : Tmp) : ∀ (l : List Oper) (j : Nat) (a : Act), (∀ o ∈ l, o.dst ≠ some d) → (putL vals listed l j a).eval (.tmp d) = a.eval (.tmp d)
  | [], _, _, _ => rfl
  | o :: l, j, a, h => by
    unfold putL
    rw [putL_eval_other d l (j + 1) _ (fun o' ho' => h o' (List.mem_cons_of_mem _ ho'))]
    split
    · exact Act.eval_put (fun d' hd' hx => h o List.mem_cons_self (by injection hx with hx; rw [hd', hx]))
    · rfl
theorem put_size (a : Act) (x : Option Tmp) (v : Value) : (a.put x v).tmps.size = a.tmps.size := by
  cases x <;> simp [Act.put]
theorem putL_eval : ∀ (l : List Oper) (k j : Nat) (o : Oper) (a : Act) (d : Tmp), ApartD l → l[k]? = some o → o.dst = some d → listed.getD (j + k) false = true → d < a.tmps.size → (putL vals listed l j a).eval (.tmp d) = vals (j + k)
  | [], _, _, _, _, _, _, h, _, _, _ => by simp at h
  | o0 :: l, 0, j, o, a, d, hd, h, ho, hu, hs => by
    simp at h
    subst h
    unfold putL
    rw [Nat.add_zero] at hu ⊢
    rw [hu, if_pos rfl, putL_eval_other d l (j + 1) _ (fun o' ho' => (List.rel_of_pairwise_cons hd ho') d ho), ho]
    simp [Act.put, Act.eval, hs]
  | o0 :: l, k + 1, j, o, a, d, hd, h, ho, hu, hs => by
    have h' : l[k]? = some o := by simpa using h
    have e : j + (k + 1) = j + 1 + k := by omega
    rw [e] at hu ⊢
    unfold putL
    refine putL_eval l k (j + 1) o _ d (List.Pairwise.of_cons hd) h' ho hu ?_
    split
    · rw [put_size]; exact hs
    · exact hs
end
/-- How many are still to come. -/
def toCome (n : Nat) (listed : Array Bool) : Nat := (List.range n).countP fun j => !listed.getD j true
theorem countP_less {p q : Nat → Bool} : ∀ (l : List Nat), (∀ x, q x = true → p x = true) → ∀ i ∈ l, p i = true → q i = false → l.countP q < l.countP p
  | [], _, _, h, _, _ => by simp at h
  | x :: l, hpq, i, hi, hp, hq => by
    have hle : l.countP q ≤ l.countP p := List.countP_mono_left (fun y _ => hpq y)
    rcases List.mem_cons.1 hi with rfl | hi
    · rw [List.countP_cons_of_pos hp, List.countP_cons_of_neg (by simp [hq])]
      omega
    · have := countP_less l hpq i hi hp hq
      by_cases hx : q x = true
      · rw [List.countP_cons_of_pos hx, List.countP_cons_of_pos (hpq x hx)]
        omega
      · rw [List.countP_cons_of_neg hx]
        have : l.countP p ≤ (x :: l).countP p := by
          by_cases hpx : p x = true
          · rw [List.countP_cons_of_pos hpx]; omega
          · rw [List.countP_cons_of_neg hpx]; exact Nat.le_refl _
        omega
section
variable {F : Fence} {n : Nat} {P : Program} {ops : Array Oper} {Q : Exit → Act → World → Prop} {a0 : Act} {C : World → Prop} {R : Nat → World → Value → Prop}
/-- What each operation owes, met at any time behind those that it waits for. -/
def StepsOk (F : Fence) (n : Nat) (P : Program) (ops : Array Oper) (Q : Exit → Act → World → Prop) (a0 : Act) (C : World → Prop) (R : Nat → World → Value → Prop) : Prop :=
  ∀ j o a w, ops[j]? = some o → C w →
    (∀ i oi d, ops[i]? = some oi → (∃ e ∈ o.after, Region.binds .any e = true ∧ e.on = i) → oi.dst = some d → R i w (a.eval (.tmp d))) →
    (∀ d, (∀ oi ∈ ops.toList, oi.dst ≠ some d) → a.eval (.tmp d) = a0.eval (.tmp d)) →
    wpOpIn F n P ops Q j (fun a' w' => ∃ v, a' = a.put o.dst v ∧ R j w' v ∧ C w' ∧ ∀ i u, R i w u → R i w' u) a w
theorem any_order (hd : ApartD ops.toList) (hsz : ∀ o ∈ ops.toList, ∀ d, o.dst = some d → d < a0.tmps.size) (hback : ∀ (j : Nat) (o : Oper), ops[j]? = some o → ∀ e ∈ o.after, Region.binds .any e = true → e.on < j)
    (hstep : StepsOk F n P ops Q a0 C R) (hfin : ∀ vals w, C w → (∀ j, j < ops.size → R j w (vals j)) → Q .normal (putAll vals ops.toList 0 a0) w) :
    ∀ (fuel : Nat) (listed : Array Bool) (vals : Nat → Value) (w : World), listed.size = ops.size → toCome ops.size listed ≤ fuel → C w → (∀ j, listed.getD j false = true → R j w (vals j)) →
      wpAnyIn F n P .any ops Q fuel listed (putL vals listed ops.toList 0 a0) w := by
  have hall : ∀ (listed : Array Bool) (vals : Nat → Value) (w : World), listed.size = ops.size → (∀ j, j < ops.size → listed.getD j true = true) → C w → (∀ j, listed.getD j false = true → R j w (vals j)) → Q .normal (putL vals listed ops.toList 0 a0) w := by
    intro listed vals w hs hl hC hR
    have hf : ∀ j, j < ops.size → listed.getD j false = true := fun j hj => by
      have := hl j hj
      rw [← hs] at hj
      simpa [Array.getD_eq_getD_getElem?, hj] using this
    rw [putL_all ops.toList 0 a0 (fun i _ hi => hf i (by simpa using hi))]
    exact hfin vals w hC (fun j hj => hR j (hf j hj))
  -- none is ready: all are listed
  have hnone : ∀ (listed : Array Bool), listed.size = ops.size → Region.ready .any ops listed = [] → ∀ j, j < ops.size → listed.getD j true = true := by
    intro listed hs hr j
    induction j using Nat.strongRecOn with
    | _ j ih =>
      intro hj
      cases hu : listed.getD j true with
      | true => rfl
      | false =>
        have : j ∈ Region.ready .any ops listed := mem_ready.2 ⟨hu, ops[j], by simp [hj], fun e he hb => by
          have h1 := hback j ops[j] (by simp [hj]) e he hb
          have h2 := ih e.on h1 (by omega)
          have h3 : e.on < listed.size := by omega
          simpa [Array.getD_eq_getD_getElem?, h3] using h2⟩
        rw [hr] at this
        cases this
  intro fuel
  induction fuel with
  | zero =>
    intro listed vals w hs hm hC hR
    have h0 : ∀ j, j < ops.size → listed.getD j true = true := by
      intro j hj
      cases hu : listed.getD j true with
      | true => rfl
      | false =>
        have : 0 < toCome ops.size listed := List.countP_pos_iff.2 ⟨j, List.mem_range.2 hj, by simp [hu]⟩
        omega
    refine ⟨?_, hall listed vals w hs h0 hC hR⟩
    cases hr : Region.ready .any ops listed with
    | nil => rfl
    | cons i rest =>
      have hi : i ∈ Region.ready .any ops listed := by rw [hr]; exact List.mem_cons_self
      obtain ⟨hu, o, ho, _⟩ := mem_ready.1 hi
      have hlt := (Array.getElem?_eq_some_iff.1 ho).1
      rw [h0 i hlt] at hu
      cases hu
  | succ fuel ih =>
    intro listed vals w hs hm hC hR
    refine ⟨fun hr => hall listed vals w hs (hnone listed hs hr) hC hR, fun i hi => ?_⟩
    obtain ⟨hu, o, ho, hdeps⟩ := mem_ready.1 hi
    have hlt := (Array.getElem?_eq_some_iff.1 ho).1
    have hl : ops.toList[i]? = some o := by simpa using ho
    have hu2 : listed.getD (0 + i) false = false := by
      have h3 : i < listed.size := by omega
      rw [Nat.zero_add]
      simpa [Array.getD_eq_getD_getElem?, h3] using hu
    refine wpOpIn_mono ?_ (hstep i o _ w ho hC ?_ ?_)
    · rintro a' w' ⟨v, rfl, hv, hC', hmono⟩
      rw [putL_set ops.toList i 0 o a0 v hd hl (by omega) hu2, Nat.zero_add]
      refine ih (listed.setIfInBounds i true) _ w' (by simpa using hs) ?_ hC' ?_
      · have : toCome ops.size (listed.setIfInBounds i true) < toCome ops.size listed := by
          refine countP_less _ ?_ i (List.mem_range.2 hlt) (by simp [hu]) ?_
          · intro x hx
            by_cases e : i = x
            · subst e
              simp only [hu, Bool.not_false]
            · simpa [Array.getD_eq_getD_getElem?, Array.getElem?_setIfInBounds_ne e] using hx
          · have h3 : i < listed.size := by omega
            simp [h3]
        omega
      · intro j hj
        by_cases e : j = i
        · subst e
          simp only [if_true]
          exact hv
        · rw [if_neg e]
          refine hmono j _ (hR j ?_)
          simpa [Array.getD_eq_getD_getElem?, Array.getElem?_setIfInBounds_ne (Ne.symm e)] using hj
    · rintro k ok d hk ⟨e, he, hb, rfl⟩ hdst
      have h1 := hdeps e he hb
      have hk2 : ops.toList[e.on]? = some ok := by simpa using hk
      rw [putL_eval ops.toList e.on 0 ok a0 d hd hk2 hdst (by rw [Nat.zero_add]; exact h1) (hsz ok (List.mem_of_getElem? hk2) d hdst), Nat.zero_add]
      exact hR _ h1
    · intro d hdn
      exact putL_eval_other d ops.toList 0 a0 hdn
/-- What is asked of the operations, by looking at them. -/
def robustB (ops : Array Oper) (m : Nat) : Bool :=
  decide ((ops.toList.filterMap fun o => o.dst).Nodup) && (ops.toList.all fun o => match o.dst with | some d => decide (d < m) | none => true) &&
  ((List.range ops.size).all fun j => match ops[j]? with | some o => o.after.all fun e => !Region.binds .any e || decide (e.on < j) | none => true)
theorem robustB_spec {ops : Array Oper} {m : Nat} (h : robustB ops m = true) : ApartD ops.toList ∧ (∀ o ∈ ops.toList, ∀ d, o.dst = some d → d < m) ∧ (∀ (j : Nat) (o : Oper), ops[j]? = some o → ∀ e ∈ o.after, Region.binds .any e = true → e.on < j) := by
  simp only [robustB, Bool.and_eq_true, decide_eq_true_eq, List.all_eq_true] at h
  obtain ⟨⟨h1, h2⟩, h3⟩ := h
  refine ⟨?_, ?_, ?_⟩
  · have := List.pairwise_filterMap.1 h1
    exact this.imp fun h d hd hd' => h d hd d hd' rfl
  · intro o ho d hd
    have := h2 o ho
    rw [hd] at this
    simpa using this
  · intro j o ho e he hb
    have hj := (Array.getElem?_eq_some_iff.1 ho).1
    have := h3 j (List.mem_range.2 hj)
    rw [ho] at this
    simp only [Array.all_eq_true_iff_forall_mem] at this
    have := this e he
    simpa [hb] using this
/-- The region, in whatever order. -/
theorem wpIn_region_robust {id : Nat} {w : World} (hm : P.follows .mixedOrders = true) (hB : robustB ops a0.tmps.size = true)
    (hC : C w.drew) (hstep : StepsOk F n P ops Q a0 C R) (hfin : ∀ vals w, C w → (∀ j, j < ops.size → R j w (vals j)) → Q .normal (putAll vals ops.toList 0 a0) w) : (Code.region id ops true).wpIn F n P Q a0 w := by
  obtain ⟨hd, hsz, hback⟩ := robustB_spec hB
  refine wpIn_region_any hm ?_
  have h0 : ∀ i, (Array.replicate ops.size false).getD i false = false := fun i => by
    simp [Array.getD_eq_getD_getElem?, Array.getElem?_replicate]
    split <;> rfl
  have := any_order hd hsz hback hstep hfin ops.size (Array.replicate ops.size false) (fun _ => undef) w.drew (by simp) (by unfold toCome; exact Nat.le_trans List.countP_le_length (by simp)) hC (fun j hj => by rw [h0 j] at hj; cases hj)
  rw [putL_none _ _ _ h0] at this
  exact this
end
theorem get_of_eval {A : Act} {d : Tmp} {v : Value} (h : A.eval (.tmp d) = v) (hv : v ≠ undef) : A.tmps[d]? = some v := by
  unfold Act.eval at h
  simp only [Array.getD_eq_getD_getElem?] at h
  cases hx : A.tmps[d]? with
  | none => rw [hx] at h; exact absurd h.symm hv
  | some u => rw [hx] at h; simpa using h
theorem anyB_spec {o : Oper} {i : Nat} (h : (o.after.any fun e => Region.binds .any e && decide (e.on = i)) = true) : ∃ e ∈ o.after, Region.binds .any e = true ∧ e.on = i := by
  simp only [Array.any_eq_true, Bool.and_eq_true, decide_eq_true_eq] at h
  obtain ⟨j, hj, h1, h2⟩ := h
  exact ⟨o.after[j], Array.getElem_mem hj, h1, h2⟩
theorem wanted_free {ops : Array Oper} {o : Oper} {A : Act} (h : o.guard = none) : Region.wanted o (yielded ops A.tmps) = true := by simp [Region.wanted, h]
theorem wanted_guard {ops : Array Oper} {o og : Oper} {A : Act} {g : Nat} {b : Bool} {d : Tmp} (h : o.guard = some (g, b)) (hg : ops[g]? = some og) (hd : og.dst = some d) (he : A.eval (.tmp d) = .bool b) : Region.wanted o (yielded ops A.tmps) = true := by
  have := get_of_eval he (by intro h; cases h)
  simp [Region.wanted, h, yielded, hg, hd, this]
section
variable {l n : Nat} {P : Program} {ops : Array Oper} {Q : Exit → Act → World → Prop} {C : World → Prop} {R : Nat → World → Value → Prop} {j : Nat} {o : Oper} {A : Act} {w : World}
/-- An operation that reads. -/
theorem step_val {v : Value} (ho : ops[j]? = some o) (hw : Region.wanted o (yielded ops A.tmps) = true) (hd : ∀ c, o.op ≠ .defer c) (hrun : (execOp A.eval o).run P w = .ok (.value v) w) (hR : R j w v) (hC : C w) :
    wpOpIn (Fence.wide.inRound l) n P ops Q j (fun a' w' => ∃ v, a' = A.put o.dst v ∧ R j w' v ∧ C w' ∧ ∀ i u, R i w u → R i w' u) A w := by
  unfold wpOpIn
  simp only [ho]
  rw [if_pos hw]
  unfold Oper.wpIn
  refine ⟨fun _ _ => trivial, ?_⟩
  rw [Oper.semAt_plain _ _ _ hd, hrun]
  exact ⟨v, rfl, hR, hC, fun _ _ h => h⟩
/-- A call. -/
theorem step_call {f : FuncId} {args : Array Value} (ho : ops[j]? = some o) (hw : Region.wanted o (yielded ops A.tmps) = true) (hd : ∀ c, o.op ≠ .defer c) (hrun : (execOp A.eval o).run P w = .ok (.enter f args) w)
    (hc : Calls P f args w fun e w' => ∃ v, e = .returned v ∧ R j w' v ∧ C w' ∧ ∀ i u, R i w u → R i w' u) :
    wpOpIn (Fence.wide.inRound l) n P ops Q j (fun a' w' => ∃ v, a' = A.put o.dst v ∧ R j w' v ∧ C w' ∧ ∀ i u, R i w u → R i w' u) A w := by
  unfold wpOpIn
  simp only [ho]
  rw [if_pos hw]
  unfold Oper.wpIn
  refine ⟨fun _ _ => trivial, ?_⟩
  rw [Oper.semAt_plain _ _ _ hd, hrun]
  refine ⟨fun h => (by cases h), CallsIn.inRound l (callsIn_wide.2 (hc.mono ?_))⟩
  rintro e w' ⟨v, rfl, h⟩
  exact ⟨v, rfl, h⟩
end
end Go.Proofs.YtippfkokgpdmdaaDoor
