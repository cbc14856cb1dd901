/-
  This text proves the statement 'EpochGoes': for every plan, epoch and pins the law 'sundiallaw14.EpochGoes' returns true, and its arguments read as before. No condition beyond the statement's own.
-/
import Derived.Test.YtgkobmmannkegaaHead
import Derived.Test.YtgkobmmannkegaaLawKitA
import Derived.Test.YtgkobmmannkegaaEpochGoes
namespace Go.Proofs.Ytgkobmmannkegaa.lawEpochGoes
open Go.ChangeShapes Go.WideShapes Go.ChangeAt Go.RowKit
set_option linter.unusedVariables false

set_option maxRecDepth 100000 in
theorem lifted (os : Os) (started : os.Started) (H : Type) (enc : TypeId × Value → H) :
    ReturnsInHanded {} Try.checked os 28 .any (Rows.epochGoesSpec.pre6 enc Try.prog Try.f28 Rows.epochGoesRow.domain false) (Rows.epochGoesSpec.post enc Try.prog Try.f28 false true false false) := by
  refine returnsInHanded_of_change (C := Try.checked) Try.own started (by kernel_rfl) Try.func28
    (ChangeSpec.witness6 (enc := enc) (C := Try.checked) false ⟨#[], #[planV 0 0 0 0, .int .u64 0, .agg #[.int .u64 0, .int .u64 0, .int .u64 0, .int .u64 0, .int .u64 0, .int .u64 0, .int .u64 0, .int .u64 0]], []⟩ 8 (by kernel_rfl) (by kernel_rfl) (by kernel_rfl) (by kernel_rfl)) ?_
  intro W base args ds gs before hval0 hW hcnd _
  have hval : ∀ (j : Nat) t v, Try.f28.params[j]? = some t → args[j]? = some v → Value.okWide Try.prog W .any base t v := hval0
  have hW' := hW
  obtain ⟨p, q, hA0, hV, rfl, hfz, hnd⟩ := hW
  have hA : DataW.TrodAll enc Try.prog W 0 (fun _ => true) true Try.f28.params.toList args.toList ds p := hA0
  rw [Try.params28] at hA hval
  obtain ⟨v0, vs0, d0, ds0, p0, q0, hargs, rfl, rfl, h0, r0⟩ := trodAll_cons hA
  obtain ⟨v1, vs1, d1, ds1, p1, q1, rfl, rfl, rfl, h1, r1⟩ := trodAll_cons r0
  obtain ⟨v2, vs2, d2, ds2, p2, q2, rfl, rfl, rfl, h2, r2⟩ := trodAll_cons r1
  obtain ⟨rfl, rfl, rfl⟩ := trodAll_nil r2
  obtain rfl : args = #[v0, v1, v2] := by cases args; simp_all
  obtain ⟨rfl, rfl⟩ := trodVars_none hV
  obtain ⟨T, S, L, G, rfl, wT, wS, wL, wG⟩ := open_planW (hval 0 24 v0 rfl rfl) h0
  obtain ⟨a0, rfl, _, _, w0⟩ := open_int Try.underlying22 (hval 1 22 v1 rfl rfl) h1
  obtain ⟨xs, hxl, rfl, hxw⟩ := open_nums .u64 8 Try.underlying147 Try.underlying22 (by kernel_rfl) (by kernel_rfl) (hval 2 147 v2 rfl rfl) h2
  have walk : Calls Try.prog 28 #[planV T S L G, .int .u64 a0, .agg (xs.map (.int .u64)).toArray] W fun e w' => e = .returned (.bool true) ∧ Below W.heap.size W w' := by
    exact epochGoes_walk T S L G a0 xs hxl (by have := bounds_u64 wG; omega) W
  refine walk.mono fun e W' ⟨he, hb⟩ => ?_
  subst he
  exact ⟨_, rfl, law_post (by kernel_rfl) (by kernel_rfl) rfl ⟨rfl, rfl, rfl⟩ hW' hb⟩

theorem named : Try.pinned.checked.prog.funcNamed Rows.epochGoesRow.func = some 28 := by kernel_rfl
theorem facts : joinedFacts Try.pinned.checked.prog 28 Try.f28 Rows.epochGoesSpec Rows.epochGoesRow = true :=
  facts_here (by kernel_rfl)
theorem inst : Try.f28.isInstance Try.pinned.checked.prog Rows.epochGoesRow.origin Rows.epochGoesRow.targs := of_decide_eq_true (by kernel_rfl)
theorem wrap : Try.f28.isWrapper Try.pinned.checked.prog Rows.epochGoesRow.wrapper Rows.epochGoesRow.mainSum := by
  unfold Func.isWrapper; first | (rw [if_pos (by decide +kernel)]; kernel_rfl) | (rw [if_neg (by decide +kernel)]; exact ⟨rfl, rfl⟩)
theorem proved : Rows.EpochGoesSaid :=
  OpenClaim.holds_of_wide 28 Try.f28 rfl rfl rfl rfl rfl rfl rfl ⟨rfl, rfl, rfl, rfl, rfl⟩ rfl rfl rfl rfl rfl named Try.func28 facts inst wrap
    (fun os started H enc _ => lifted os started H enc)
#print axioms proved
end Go.Proofs.Ytgkobmmannkegaa.lawEpochGoes
