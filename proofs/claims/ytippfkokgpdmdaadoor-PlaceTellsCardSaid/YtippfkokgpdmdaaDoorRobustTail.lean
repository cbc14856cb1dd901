/-
  A region that draws its order, inside a fence: a head whose operations yield what a relation says, in whatever order; then a tail in the text's order.
-/
import Derived.Test.YtippfkokgpdmdaaDoorAnyOrder
import Derived.StillTail
import Derived.TacticsIn
namespace Go.Proofs.YtippfkokgpdmdaaDoor
open Go Go.RowKit
set_option linter.unusedVariables false

section
variable {F : Fence} {n : Nat} {P : Program} {ops : Array Oper} {Q : Exit → Act → World → Prop} {a0 : Act} {C : World → Prop} {R : Nat → World → Value → Prop}
theorem anyIn_fuel : ∀ (f f' : Nat) (listed : Array Bool) (a : Act) (w : World), f ≤ f' → wpAnyIn F n P .any ops Q f listed a w → wpAnyIn F n P .any ops Q f' listed a w
  | 0, 0, _, _, _, _, h => h
  | 0, f' + 1, listed, a, w, _, h => ⟨fun _ => h.2, fun i hi => by rw [h.1] at hi; cases hi⟩
  | f + 1, 0, _, _, _, hf, _ => absurd hf (by omega)
  | f + 1, f' + 1, listed, a, w, hf, h => ⟨h.1, fun i hi => wpOpIn_mono (fun a' w' h' => anyIn_fuel f f' _ a' w' (by omega) h') (h.2 i hi)⟩
theorem anyIn_seq : ∀ (l : List Oper) (k : Nat) (listed : Array Bool) (a : Act) (w : World), (∀ j, l[j]? = ops[k + j]?) → Region.seqB .any ops l.length k listed = true → wpListIn F n P ops Q l a w → wpAnyIn F n P .any ops Q l.length listed a w := by
  intro l
  induction l with
  | nil =>
    intro k listed a w _ hB h
    exact ⟨by simpa [Region.seqB] using hB, h⟩
  | cons o l ih =>
    intro k listed a w hl hB h
    have h0 : ops[k]? = some o := (hl 0).symm
    simp only [List.length_cons, Region.seqB, Bool.and_eq_true, decide_eq_true_eq] at hB
    constructor
    · intro h1
      rw [hB.1] at h1
      cases h1
    · intro i hi
      rw [hB.1, List.mem_singleton] at hi
      subst hi
      have hw : wpOpIn F n P ops Q i (wpListIn F n P ops Q l) a w := by
        unfold wpOpIn
        simp only [h0]
        exact h
      refine wpOpIn_mono (fun a' w' h' => ih (i + 1) _ a' w' (fun j => ?_) hB.2 h') hw
      have := hl (j + 1)
      rw [show i + 1 + j = i + (j + 1) by omega]
      simpa using this
def headDone (m s : Nat) : Array Bool := Array.replicate m true ++ Array.replicate (s - m) false
theorem headDone_eq {m s : Nat} {listed : Array Bool} (hs : listed.size = s) (hm : m ≤ s) (h1 : ∀ j, j < m → listed.getD j true = true) (h2 : ∀ t, m ≤ t → t < s → listed.getD t true = false) : listed = headDone m s := by
  apply Array.ext
  · simp [headDone, hs]; omega
  · intro i hi hi'
    by_cases h : i < m
    · have := h1 i h
      simp [hi] at this
      simp [headDone, h, this]
    · have := h2 i (by omega) (by omega)
      simp [hi] at this
      simp [headDone, Array.getElem_append, h, this]
theorem putL_getD_congr : ∀ (l : List Oper) (j : Nat) (a : Act) (vals : Nat → Value) (listed listed' : Array Bool), (∀ i, j ≤ i → i < j + l.length → listed.getD i false = listed'.getD i false) → putL vals listed l j a = putL vals listed' l j a
  | [], _, _, _, _, _, _ => rfl
  | o :: l, j, a, vals, listed, listed', h => by
    unfold putL
    rw [h j (Nat.le_refl _) (by simp)]
    exact putL_getD_congr l (j + 1) _ vals listed listed' (fun i h1 h2 => h i (by omega) (by simp only [List.length_cons]; omega))
/-- What each operation of the head owes. -/
def HeadOk (F : Fence) (n : Nat) (P : Program) (ops : Array Oper) (m : Nat) (Q : Exit → Act → World → Prop) (a0 : Act) (C : World → Prop) (R : Nat → World → Value → Prop) : Prop :=
  ∀ j o a w, j < m → ops[j]? = some o → C w →
    (∀ i oi d, ops[i]? = some oi → (∃ e ∈ o.after, Region.binds .any e = true ∧ e.on = i) → oi.dst = some d → R i w (a.eval (.tmp d))) →
    (∀ d, (∀ oi ∈ ops.toList.take m, oi.dst ≠ some d) → a.eval (.tmp d) = a0.eval (.tmp d)) →
    wpOpIn F n P ops Q j (fun a' w' => ∃ v, a' = a.put o.dst v ∧ R j w' v ∧ C w' ∧ ∀ i u, R i w u → R i w' u) a w
theorem any_order_tail (m : Nat) (hm : m < ops.size) (hd : ApartD (ops.toList.take m)) (hsz : ∀ o ∈ ops.toList.take m, ∀ d, o.dst = some d → d < a0.tmps.size)
    (hback : ∀ (j : Nat) (o : Oper), ops[j]? = some o → ∀ e ∈ o.after, Region.binds .any e = true → e.on < j) (hs : Region.sinkB .any ops m = true) (hc : Region.chainB .any ops m = true)
    (hseq : Region.seqB .any ops (ops.size - m) m (headDone m ops.size) = true)
    (hstep : HeadOk F n P ops m Q a0 C R) (hfin : ∀ vals w, C w → (∀ j, j < m → R j w (vals j)) → wpListIn F n P ops Q (ops.toList.drop m) (putAll vals (ops.toList.take m) 0 a0) w) :
    ∀ (fuel : Nat) (listed : Array Bool) (vals : Nat → Value) (w : World), HeadInv .any ops m listed → toCome m listed + (ops.size - m) ≤ fuel → C w → (∀ j, j < m → listed.getD j false = true → R j w (vals j)) →
      wpAnyIn F n P .any ops Q fuel listed (putL vals listed (ops.toList.take m) 0 a0) w := by
  have htl : (ops.toList.take m).length = m := by simp; omega
  have hdone : ∀ (listed : Array Bool) (vals : Nat → Value) (w : World) (fuel : Nat), HeadInv .any ops m listed → ops.size - m ≤ fuel → (∀ j, j < m → listed.getD j true = true) → C w → (∀ j, j < m → listed.getD j false = true → R j w (vals j)) →
      wpAnyIn F n P .any ops Q fuel listed (putL vals listed (ops.toList.take m) 0 a0) w := by
    intro listed vals w fuel inv hf hl hC hR
    have hlf : ∀ j, j < m → listed.getD j false = true := fun j hj => by
      have := hl j hj
      have h3 : j < listed.size := by rw [inv.size]; omega
      simpa [Array.getD_eq_getD_getElem?, h3] using this
    have e := headDone_eq inv.size (Nat.le_of_lt hm) hl inv.tail
    rw [putL_all (ops.toList.take m) 0 a0 (fun i _ hi => hlf i (by omega))]
    refine anyIn_fuel (ops.toList.drop m).length fuel listed _ w (by simp; omega) (anyIn_seq (ops.toList.drop m) m listed _ w (fun j => by simp [List.getElem?_drop]) ?_ (hfin vals w hC (fun j hj => hR j hj (hlf j hj))))
    rw [e]
    simpa using hseq
  intro fuel
  induction fuel with
  | zero =>
    intro listed vals w inv hf hC hR
    omega
  | succ fuel ih =>
    intro listed vals w inv hf hC hR
    by_cases h0 : ∀ j, j < m → listed.getD j true = true
    · exact hdone listed vals w _ inv (by omega) h0 hC hR
    · obtain ⟨i0, hi0⟩ := Classical.not_forall.1 h0
      obtain ⟨hi0m, hi0f⟩ := Classical.not_imp.1 hi0
      have hun0 : listed.getD i0 true = false := by simpa using hi0f
      have hready : ∀ i, i ∈ Region.ready .any ops listed → i < m := fun i hi => by
        rcases Nat.lt_or_ge i m with h | h
        · exact h
        · exact absurd hi (tail_waits hs hc hm inv _ i0 rfl hi0m hun0 i h)
      refine ⟨fun hr => ?_, fun i hi => ?_⟩
      · exfalso
        refine h0 ?_
        intro j
        induction j using Nat.strongRecOn with
        | _ j ihj =>
          intro hj
          cases hu : listed.getD j true with
          | true => rfl
          | false =>
            have : j ∈ Region.ready .any ops listed := mem_ready.2 ⟨hu, ops[j]'(by omega), by simp [show j < ops.size by omega], fun e he hb => by
              have h1 := hback j (ops[j]'(by omega)) (by simp [show j < ops.size by omega]) e he hb
              have h2 := ihj e.on h1 (by omega)
              have h3 : e.on < listed.size := by rw [inv.size]; omega
              simpa [Array.getD_eq_getD_getElem?, h3] using h2⟩
            rw [hr] at this
            cases this
      · obtain ⟨hu, o, ho, hdeps⟩ := mem_ready.1 hi
        have him := hready i hi
        have hlt : i < ops.size := by omega
        have hl : (ops.toList.take m)[i]? = some o := by
          rw [List.getElem?_take_of_lt him]
          simpa using ho
        have h3 : i < listed.size := by rw [inv.size]; omega
        have hu2 : listed.getD (0 + i) false = false := by
          rw [Nat.zero_add]
          simpa [Array.getD_eq_getD_getElem?, h3] using hu
        refine wpOpIn_mono ?_ (hstep i o _ w him ho hC ?_ ?_)
        · rintro a' w' ⟨v, rfl, hv, hC', hmono⟩
          rw [putL_set (ops.toList.take m) i 0 o a0 v hd hl (by omega) hu2, Nat.zero_add]
          refine ih (listed.setIfInBounds i true) _ w' (inv.set hi him) ?_ hC' ?_
          · have : toCome m (listed.setIfInBounds i true) < toCome m listed := by
              refine countP_less _ ?_ i (List.mem_range.2 him) (by simp [hu]) ?_
              · intro x hx
                by_cases e : i = x
                · subst e
                  simp only [hu, Bool.not_false]
                · simpa [Array.getD_eq_getD_getElem?, Array.getElem?_setIfInBounds_ne e] using hx
              · simp [h3]
            omega
          · intro j hjm hj
            by_cases e : j = i
            · subst e
              simp only [if_true]
              exact hv
            · rw [if_neg e]
              refine hmono j _ (hR j hjm ?_)
              simpa [Array.getD_eq_getD_getElem?, Array.getElem?_setIfInBounds_ne (Ne.symm e)] using hj
        · rintro k ok d hk ⟨e, he, hb, rfl⟩ hdst
          have h1 := hdeps e he hb
          have hkm : e.on < m := Nat.lt_trans (hback i o ho e he hb) him
          have hk2 : (ops.toList.take m)[e.on]? = some ok := by
            rw [List.getElem?_take_of_lt hkm]
            simpa using hk
          rw [putL_eval (ops.toList.take m) e.on 0 ok a0 d hd hk2 hdst (by rw [Nat.zero_add]; exact h1) (hsz ok (List.mem_of_getElem? hk2) d hdst), Nat.zero_add]
          exact hR _ hkm h1
        · intro d hdn
          exact putL_eval_other d (ops.toList.take m) 0 a0 hdn
/-- What is asked of the operations, by looking at them. -/
def robustTailB (ops : Array Oper) (m k : Nat) : Bool :=
  decide (m < ops.size) && decide (((ops.toList.take m).filterMap fun o => o.dst).Nodup) && ((ops.toList.take m).all fun o => match o.dst with | some d => decide (d < k) | none => true) &&
  ((List.range ops.size).all fun j => match ops[j]? with | some o => o.after.all fun e => !Region.binds .any e || decide (e.on < j) | none => true) &&
  Region.sinkB .any ops m && Region.chainB .any ops m && Region.seqB .any ops (ops.size - m) m (headDone m ops.size)
theorem wpIn_region_robust_tail {id : Nat} {w : World} (m : Nat) (hmo : P.follows .mixedOrders = true) (hB : robustTailB ops m a0.tmps.size = true)
    (hC : C w.drew) (hstep : HeadOk F n P ops m Q a0 C R) (hfin : ∀ vals w, C w → (∀ j, j < m → R j w (vals j)) → wpListIn F n P ops Q (ops.toList.drop m) (putAll vals (ops.toList.take m) 0 a0) w) : (Code.region id ops true).wpIn F n P Q a0 w := by
  simp only [robustTailB, Bool.and_eq_true, decide_eq_true_eq, List.all_eq_true] at hB
  obtain ⟨⟨⟨⟨⟨⟨hm, h1⟩, h2⟩, h3⟩, hs⟩, hc⟩, hseq⟩ := hB
  refine wpIn_region_any hmo ?_
  have h0 : ∀ i, (Array.replicate ops.size false).getD i false = false := fun i => getD_replicate_false _ _
  have inv0 : HeadInv .any ops m (Array.replicate ops.size false) :=
    ⟨by simp, fun j oj _ hl => (by rw [h0] at hl; cases hl), fun t _ ht => getD_in (by simpa using ht) (h0 t)⟩
  have := any_order_tail (F := F) (n := n) (P := P) (Q := Q) (a0 := a0) (C := C) (R := R) m hm (by
      have := List.pairwise_filterMap.1 h1
      exact this.imp fun h d hd hd' => h d hd d hd' rfl)
    (by
      intro o ho d hd
      have := h2 o ho
      rw [hd] at this
      simpa using this)
    (by
      intro j o ho e he hb
      have hj := (Array.getElem?_eq_some_iff.1 ho).1
      have := h3 j (List.mem_range.2 hj)
      rw [ho] at this
      simp only [Array.all_eq_true_iff_forall_mem] at this
      have := this e he
      simpa [hb] using this) hs hc hseq hstep hfin ops.size (Array.replicate ops.size false) (fun _ => undef) w.drew inv0 ?_ hC (fun j _ hj => by rw [h0 j] at hj; cases hj)
  · rw [putL_none _ _ _ h0] at this
    exact this
  · have : toCome m (Array.replicate ops.size false) ≤ m := by
      unfold toCome
      exact Nat.le_trans List.countP_le_length (by simp)
    omega
end
section
variable {n : Nat} {P : Program} {ops : Array Oper} {Q : Exit → Act → World → Prop} {C : World → Prop} {R : Nat → World → Value → Prop} {j : Nat} {o : Oper} {A : Act} {w : World}
/-- An operation that reads. -/
theorem read_val {v : Value} (ho : ops[j]? = some o) (hw : Region.wanted o (yielded ops A.tmps) = true) (hd : ∀ c, o.op ≠ .defer c) (hrun : (execOp A.eval o).run P w = .ok (.value v) w) (hR : R j w v) (hC : C w) :
    wpOpIn Fence.wide n P ops Q j (fun a' w' => ∃ v, a' = A.put o.dst v ∧ R j w' v ∧ C w' ∧ ∀ i u, R i w u → R i w' u) A w := by
  unfold wpOpIn
  simp only [ho]
  rw [if_pos hw]
  unfold Oper.wpIn
  refine ⟨fun _ _ => trivial, ?_⟩
  rw [Oper.semAt_plain _ _ _ hd, hrun]
  exact ⟨v, rfl, hR, hC, fun _ _ h => h⟩
/-- An operation that makes something. -/
theorem make_val {v : Value} {w' : World} (ho : ops[j]? = some o) (hw : Region.wanted o (yielded ops A.tmps) = true) (hd : ∀ c, o.op ≠ .defer c) (hrun : (execOp A.eval o).run P w = .ok (.value v) w') (hR : R j w' v) (hC : C w') (hk : ∀ i u, R i w u → R i w' u) :
    wpOpIn Fence.wide n P ops Q j (fun a' w' => ∃ v, a' = A.put o.dst v ∧ R j w' v ∧ C w' ∧ ∀ i u, R i w u → R i w' u) A w := by
  unfold wpOpIn
  simp only [ho]
  rw [if_pos hw]
  unfold Oper.wpIn
  refine ⟨fun _ _ => trivial, ?_⟩
  rw [Oper.semAt_plain _ _ _ hd, hrun]
  exact ⟨v, rfl, hR, hC, hk⟩
end
end Go.Proofs.YtippfkokgpdmdaaDoor
