/-
  This text proves the statement 'BlankMakes': for every plan the law 'sundiallaw10.BlankMakes' returns true, and its argument reads as before. No condition beyond the statement's own.
-/
import Derived.Test.YtgkobmmannkegaaHead
import Derived.Test.YtgkobmmannkegaaLawKitW
import Derived.Test.YtgkobmmannkegaaBlankMakes
namespace Go.Proofs.Ytgkobmmannkegaa.lawBlankMakes
open Go.ChangeShapes Go.WideShapes Go.ChangeAt Go.RowKit
set_option linter.unusedVariables false

set_option maxRecDepth 100000 in
theorem lifted (os : Os) (started : os.Started) (H : Type) (enc : TypeId × Value → H) :
    ReturnsInHanded {} Try.checked os 22 .any (Rows.blankMakesSpec.pre6 enc Try.prog Try.f22 Rows.blankMakesRow.domain false) (Rows.blankMakesSpec.post enc Try.prog Try.f22 false true false false) := by
  refine returnsInHanded_of_change (C := Try.checked) Try.own started (by kernel_rfl) Try.func22
    (ChangeSpec.witness6 (enc := enc) (C := Try.checked) false ⟨#[], #[planV 0 0 0 0], []⟩ 8 (by kernel_rfl) (by kernel_rfl) (by kernel_rfl) (by kernel_rfl)) ?_
  intro W base args ds gs before hval0 hW hcnd _
  have hval : ∀ (j : Nat) t v, Try.f22.params[j]? = some t → args[j]? = some v → Value.okWide Try.prog W .any base t v := hval0
  have hW' := hW
  obtain ⟨p, q, hA0, hV, rfl, hfz, hnd⟩ := hW
  have hA : DataW.TrodAll enc Try.prog W 0 (fun _ => true) true Try.f22.params.toList args.toList ds p := hA0
  rw [Try.params22] at hA hval
  obtain ⟨v0, vs0, d0, ds0, p0, q0, hargs, rfl, rfl, h0, r0⟩ := trodAll_cons hA
  obtain ⟨rfl, rfl, rfl⟩ := trodAll_nil r0
  obtain rfl : args = #[v0] := by cases args; simp_all
  obtain ⟨rfl, rfl⟩ := trodVars_none hV
  obtain ⟨T, S, L, G, rfl, wT, wS, wL, wG⟩ := open_planW (hval 0 24 v0 rfl rfl) h0
  have walk : Calls Try.prog 22 #[planV T S L G] W fun e w' => e = .returned (.bool true) ∧ Below W.heap.size W w' := by
    exact blankMakes_walk T S L G (by have := bounds_u64 wG; omega) W
  refine walk.mono fun e W' ⟨he, hb⟩ => ?_
  subst he
  exact ⟨_, rfl, law_post (by kernel_rfl) (by kernel_rfl) rfl ⟨rfl, rfl, rfl⟩ hW' hb⟩

theorem named : Try.pinned.checked.prog.funcNamed Rows.blankMakesRow.func = some 22 := by kernel_rfl
theorem facts : joinedFacts Try.pinned.checked.prog 22 Try.f22 Rows.blankMakesSpec Rows.blankMakesRow = true :=
  facts_here (by kernel_rfl)
theorem inst : Try.f22.isInstance Try.pinned.checked.prog Rows.blankMakesRow.origin Rows.blankMakesRow.targs := of_decide_eq_true (by kernel_rfl)
theorem wrap : Try.f22.isWrapper Try.pinned.checked.prog Rows.blankMakesRow.wrapper Rows.blankMakesRow.mainSum := by
  unfold Func.isWrapper; first | (rw [if_pos (by decide +kernel)]; kernel_rfl) | (rw [if_neg (by decide +kernel)]; exact ⟨rfl, rfl⟩)
theorem proved : Rows.BlankMakesSaid :=
  OpenClaim.holds_of_wide 22 Try.f22 rfl rfl rfl rfl rfl rfl rfl ⟨rfl, rfl, rfl, rfl, rfl⟩ rfl rfl rfl rfl rfl named Try.func22 facts inst wrap
    (fun os started H enc _ => lifted os started H enc)
#print axioms proved
end Go.Proofs.Ytgkobmmannkegaa.lawBlankMakes
