/-
  This text proves the statement 'PlanApart': for every plan the law 'sundiallaw08.PlanApart' returns true, and its argument reads as before. No condition beyond the statement's own.
-/
import Derived.Test.YtgkobmmannkegaaHead
import Derived.Test.YtgkobmmannkegaaLawKit
import Derived.Test.YtgkobmmannkegaaApartClaims
namespace Go.Proofs.Ytgkobmmannkegaa.lawPlanApart
open Go.ChangeShapes Go.WideShapes Go.ChangeAt Go.RowKit
set_option linter.unusedVariables false

set_option maxRecDepth 100000 in
theorem lifted (os : Os) (started : os.Started) (H : Type) (enc : TypeId × Value → H) :
    ReturnsInHanded {} Try.checked os 5 .any (Rows.planApartSpec.pre6 enc Try.prog Try.f5 Rows.planApartRow.domain false) (Rows.planApartSpec.post enc Try.prog Try.f5 false true false false) := by
  refine returnsInHanded_of_change (C := Try.checked) Try.own started (by kernel_rfl) Try.func5
    (ChangeSpec.witness6 (enc := enc) (C := Try.checked) false ⟨#[], #[planV 0 0 0 0], []⟩ 8 (by kernel_rfl) (by kernel_rfl) (by kernel_rfl) (by kernel_rfl)) ?_
  intro W base args ds gs before hval0 hW hcnd _
  have hval : ∀ (j : Nat) t v, Try.f5.params[j]? = some t → args[j]? = some v → Value.okWide Try.prog W .any base t v := hval0
  have hW' := hW
  obtain ⟨p, q, hA0, hV, rfl, hfz, hnd⟩ := hW
  have hA : DataW.TrodAll enc Try.prog W 0 (fun _ => true) true Try.f5.params.toList args.toList ds p := hA0
  rw [Try.params5] at hA hval
  obtain ⟨v0, vs0, d0, ds0, p0, q0, hargs, rfl, rfl, h0, r0⟩ := trodAll_cons hA
  obtain ⟨rfl, rfl, rfl⟩ := trodAll_nil r0
  obtain rfl : args = #[v0] := by cases args; simp_all
  obtain ⟨rfl, rfl⟩ := trodVars_none hV
  obtain ⟨T, S, L, G, rfl⟩ := open_plan (hval 0 24 v0 rfl rfl) h0
  have walk : Calls Try.prog 5 #[planV T S L G] W fun e w' => e = .returned (.bool true) ∧ Below W.heap.size W w' := by
    by_cases h : PRight T S L G
    · obtain ⟨t, rfl⟩ : ∃ t : Nat, T = t := ⟨T.toNat, by have := h.1; omega⟩
      obtain ⟨s, rfl⟩ : ∃ s : Nat, S = s := ⟨S.toNat, by have := h.2.1; omega⟩
      obtain ⟨l, rfl⟩ : ∃ l : Nat, L = l := ⟨L.toNat, by have := h.2.2.1; omega⟩
      exact apart_right t s l G h W
    · exact apart_wrong T S L G h W
  refine walk.mono fun e W' ⟨he, hb⟩ => ?_
  subst he
  exact ⟨_, rfl, law_post (by kernel_rfl) (by kernel_rfl) rfl ⟨rfl, rfl, rfl⟩ hW' hb⟩

theorem named : Try.pinned.checked.prog.funcNamed Rows.planApartRow.func = some 5 := by kernel_rfl
theorem facts : joinedFacts Try.pinned.checked.prog 5 Try.f5 Rows.planApartSpec Rows.planApartRow = true :=
  facts_here (by kernel_rfl)
theorem inst : Try.f5.isInstance Try.pinned.checked.prog Rows.planApartRow.origin Rows.planApartRow.targs := of_decide_eq_true (by kernel_rfl)
theorem wrap : Try.f5.isWrapper Try.pinned.checked.prog Rows.planApartRow.wrapper Rows.planApartRow.mainSum := by
  unfold Func.isWrapper; first | (rw [if_pos (by decide +kernel)]; kernel_rfl) | (rw [if_neg (by decide +kernel)]; exact ⟨rfl, rfl⟩)
theorem proved : Rows.PlanApartSaid :=
  OpenClaim.holds_of_wide 5 Try.f5 rfl rfl rfl rfl rfl rfl rfl ⟨rfl, rfl, rfl, rfl, rfl⟩ rfl rfl rfl rfl rfl named Try.func5 facts inst wrap
    (fun os started H enc _ => lifted os started H enc)
#print axioms proved
end Go.Proofs.Ytgkobmmannkegaa.lawPlanApart
