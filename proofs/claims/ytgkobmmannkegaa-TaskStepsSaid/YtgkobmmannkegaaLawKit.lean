/-
  From a walk to the statement: the arguments as they are handed in; what reads as it did.
-/
import Derived.Test.YtgkobmmannkegaaRows
import Derived.Test.YtgkobmmannkegaaPlan
import Derived.Test.YtgkobmmannkegaaPinLong
import Derived.Lib.SmallJoins
import Derived.WalkKit
import Derived.ProofKit
import Derived.OpenShut
namespace Go.Proofs.Ytgkobmmannkegaa
open Go.ChangeShapes Go.WideShapes Go.ChangeAt Go.RowKit
set_option linter.unusedVariables false

theorem Try.own : ownKnob Try.prog.godebug = none := by kernel_rfl
theorem Try.laidOut : laidOutB Try.prog = true := by kernel_rfl
section
variable {H : Type} {enc : TypeId × Value → H} {W W' : World} {r : Reach} {b0 base : Nat} {spare : Nat → Bool} {held : Bool}

set_option maxRecDepth 100000
theorem trod_num {t : TypeId} {k : IntKind} {n : Nat} {v : Value} {y : DataW H × List MemPlace} (ht : Try.prog.underlying t = some (.int k)) (h : DataW.trod enc Try.prog W base spare held n t [v] = some y) : ∃ m, v = .int k m := by
  obtain ⟨m, e, _⟩ := DataW.trod_int ht h
  exact ⟨m, by simpa using e⟩
theorem open_plan {v : Value} {d : DataW H} {p : List MemPlace} (hv : Value.okWide Try.prog W r b0 24 v) (h : DataW.Trod enc Try.prog W base spare held 24 v d p) : ∃ T S L G, v = planV T S L G := by
  obtain ⟨v0, v1, v2, v3, y0, y1, y2, y3, n, rfl, _, _, h0, h1, h2, h3⟩ := Go.Joins.open_agg4 Try.underlying24 (by kernel_rfl) (by kernel_rfl) hv h
  obtain ⟨T, rfl⟩ := trod_num (k := .i64) (by kernel_rfl) h0
  obtain ⟨S, rfl⟩ := trod_num (k := .i64) (by kernel_rfl) h1
  obtain ⟨L, rfl⟩ := trod_num (k := .i64) (by kernel_rfl) h2
  obtain ⟨G, rfl⟩ := trod_num (k := .u64) (by kernel_rfl) h3
  exact ⟨T, S, L, G, rfl⟩
theorem open_list {v : Value} {d : DataW H} {p : List MemPlace} (hv : Value.okWide Try.prog W r b0 25 v) (h : DataW.Trod enc Try.prog W base spare held 25 v d p) :
    ∃ a n c, v = .slice a n c ∧ (∃ ins, U64s W W.heap.size v ins ∧ ins.length = n) := by
  obtain ⟨a, n, c, rfl⟩ := okWide_slice Try.underlying25 hv
  refine ⟨a, n, c, rfl, ?_⟩
  obtain ⟨fuel, hf⟩ := h
  rcases open_ints (k := .u64) Try.underlying25 (by kernel_rfl) (by kernel_rfl) hf with ⟨h1, _⟩ | ⟨a', len, cap, zs, h1, _, hl, _, hz, _, hc, _⟩
  · simp only [Value.cells, List.cons.injEq, Value.slice.injEq] at h1
    obtain ⟨⟨rfl, rfl, rfl⟩, _⟩ := h1
    exact ⟨[], ⟨none, 0, rfl, fun h0 => absurd h0 (by simp)⟩, rfl⟩
  · simp only [Value.cells, List.cons.injEq, Value.slice.injEq] at h1
    obtain ⟨⟨rfl, rfl, rfl⟩, _⟩ := h1
    have hn : n ≤ zs.length := by rw [hz]; split <;> omega
    refine ⟨zs.take n, ?_, by simp; omega⟩
    have := u64s_of W a' c (zs.take n) (fun i hi => by
      have hi' : i < n ∧ i < zs.length := by simp at hi; omega
      rw [hc i hi'.2]
      simp [List.getD, hi'.1])
    rwa [show (zs.take n).length = n by simp; omega] at this
/-- What is handed in reads as it did, behind a call that only made memory. -/
theorem trodAll_below {P : Program} (hl : laidOutB P = true) (hb : Below W.heap.size W W') : ∀ (ts : List TypeId) {vs : List Value} {ds : List (DataW H)} {ps : List MemPlace}, (ts.all fun t => P.readableRec t && decide (t < P.types.size)) = true →
    DataW.TrodAll enc P W 0 (fun _ => true) true ts vs ds ps → (∀ x ∈ ps, x.block < W.heap.size) → DataW.TrodAll enc P W' 0 (fun b => decide (b < W.heap.size)) true ts vs ds ps := by
  intro ts
  induction ts with
  | nil =>
    intro vs ds ps _ h _
    obtain ⟨rfl, rfl, rfl⟩ := trodAll_nil h
    exact trodAll_mk0
  | cons t ts ih =>
    intro vs ds ps hr h hlt
    obtain ⟨v, vs, d, ds, p, q, rfl, rfl, rfl, h1, h2⟩ := trodAll_cons h
    simp only [List.all_cons, Bool.and_eq_true, decide_eq_true_eq] at hr
    exact trodAll_cons_mk (Below.trod hl hr.1.1 hr.1.2 h1 hb (fun x hx => hlt x (List.mem_append_left _ hx))) (ih (by simpa using hr.2) h2 (fun x hx => hlt x (List.mem_append_right _ hx)))
theorem law_post {f : Func} {s : ChangeSpec} {args : Array Value} {ds gs : List (DataW H)} {before : List MemPlace} (hrow : (f.params.toList.all fun t => Try.prog.readableRec t && decide (t < Try.prog.types.size)) = true)
    (hres : f.resultTypes = #[4]) (hvars : s.vars = []) (hfn : (s.fn H (ds ++ gs)).results = [.lit (.bool true)] ∧ (s.fn H (ds ++ gs)).args = ds ∧ (s.fn H (ds ++ gs)).vars = [])
    (hW : DataW.Whole enc Try.prog f.params.toList s.vars false W args.toList ds gs before) (hb : Below W.heap.size W W') : s.post enc Try.prog f false true false false W args (.bool true) W' := by
  have hW' := hW
  obtain ⟨p, q, hA, hV, rfl, _, _⟩ := hW
  refine ⟨ds, gs, p ++ q, [], p, [], hW', ?_, ?_, ?_, hb.frame _, fun h => by cases h⟩
  · rw [hfn.1, hres]; exact trodAll_cons_mk (shut_bool Try.underlying4 _) trodAll_mk0
  · rw [hfn.2.1]; exact trodAll_below Try.laidOut hb _ hrow hA (fun x hx => hW'.lt x (List.mem_append_left _ hx))
  · rw [hfn.2.2, hvars]; exact rfl
end
end Go.Proofs.Ytgkobmmannkegaa
