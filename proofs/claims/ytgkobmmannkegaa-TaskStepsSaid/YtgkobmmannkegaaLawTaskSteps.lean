/-
  This text proves the statement 'TaskSteps': for every list of words, every script and every number of deeds the law 'sundiallaw11.TaskSteps' returns true, and its arguments read as before. No condition beyond the statement's own.
-/
import Derived.Test.YtgkobmmannkegaaHead
import Derived.Test.YtgkobmmannkegaaLawKitC
import Derived.Test.YtgkobmmannkegaaStepsLaw
namespace Go.Proofs.Ytgkobmmannkegaa.lawTaskSteps
open Go.ChangeShapes Go.WideShapes Go.ChangeAt Go.RowKit
set_option linter.unusedVariables false

set_option maxRecDepth 100000 in
theorem lifted (os : Os) (started : os.Started) (H : Type) (enc : TypeId × Value → H) :
    ReturnsInHanded {} Try.checked os 24 .any (Rows.taskStepsSpec.pre6 enc Try.prog Try.f24 Rows.taskStepsRow.domain false) (Rows.taskStepsSpec.post enc Try.prog Try.f24 false true false false) := by
  refine returnsInHanded_of_change (C := Try.checked) Try.own started (by kernel_rfl) Try.func24
    (ChangeSpec.witness6 (enc := enc) (C := Try.checked) false ⟨#[], #[.slice none 0 0, .slice none 0 0, .int .i64 0], []⟩ 8 (by kernel_rfl) (by kernel_rfl) (by kernel_rfl) (by kernel_rfl)) ?_
  intro W base args ds gs before hval0 hW hcnd _
  have hval : ∀ (j : Nat) t v, Try.f24.params[j]? = some t → args[j]? = some v → Value.okWide Try.prog W .any base t v := hval0
  have hW' := hW
  obtain ⟨p, q, hA0, hV, rfl, hfz, hnd⟩ := hW
  have hA : DataW.TrodAll enc Try.prog W 0 (fun _ => true) true Try.f24.params.toList args.toList ds p := hA0
  rw [Try.params24] at hA hval
  obtain ⟨v0, vs0, d0, ds0, p0, q0, hargs, rfl, rfl, h0, r0⟩ := trodAll_cons hA
  obtain ⟨v1, vs1, d1, ds1, p1, q1, rfl, rfl, rfl, h1, r1⟩ := trodAll_cons r0
  obtain ⟨v2, vs2, d2, ds2, p2, q2, rfl, rfl, rfl, h2, r2⟩ := trodAll_cons r1
  obtain ⟨rfl, rfl, rfl⟩ := trodAll_nil r2
  obtain rfl : args = #[v0, v1, v2] := by cases args; simp_all
  obtain ⟨rfl, rfl⟩ := trodVars_none hV
  obtain ⟨a, n, c, rfl, ins, hI, hn⟩ := open_list (hval 0 25 v0 rfl rfl) h0
  obtain ⟨sa, sn, sc, rfl, hS⟩ := open_deeds (hval 1 29 v1 rfl rfl) h1
  obtain ⟨a0, rfl, _, _, w0⟩ := open_int Try.underlying3 (hval 2 3 v2 rfl rfl) h2
  have walk : Calls Try.prog 24 #[.slice a n c, .slice sa sn sc, .int .i64 a0] W fun e w' => e = .returned (.bool true) ∧ Below W.heap.size W w' := by
    by_cases h : 200 < n ∨ 100 < sn
    · exact taskSteps_skip a n c sa sn sc a0 h W
    · obtain ⟨ds, g1, hl1, hD1, _⟩ := deeds_of_nums hS
      subst hn
      exact taskSteps_walk a _ c ins rfl sa sn sc g1 ds hl1 a0 W hI hD1 (by omega) (by omega)
  refine walk.mono fun e W' ⟨he, hb⟩ => ?_
  subst he
  exact ⟨_, rfl, law_post (by kernel_rfl) (by kernel_rfl) rfl ⟨rfl, rfl, rfl⟩ hW' hb⟩

theorem named : Try.pinned.checked.prog.funcNamed Rows.taskStepsRow.func = some 24 := by kernel_rfl
theorem facts : joinedFacts Try.pinned.checked.prog 24 Try.f24 Rows.taskStepsSpec Rows.taskStepsRow = true :=
  facts_here (by kernel_rfl)
theorem inst : Try.f24.isInstance Try.pinned.checked.prog Rows.taskStepsRow.origin Rows.taskStepsRow.targs := of_decide_eq_true (by kernel_rfl)
theorem wrap : Try.f24.isWrapper Try.pinned.checked.prog Rows.taskStepsRow.wrapper Rows.taskStepsRow.mainSum := by
  unfold Func.isWrapper; first | (rw [if_pos (by decide +kernel)]; kernel_rfl) | (rw [if_neg (by decide +kernel)]; exact ⟨rfl, rfl⟩)
theorem proved : Rows.TaskStepsSaid :=
  OpenClaim.holds_of_wide 24 Try.f24 rfl rfl rfl rfl rfl rfl rfl ⟨rfl, rfl, rfl, rfl, rfl⟩ rfl rfl rfl rfl rfl named Try.func24 facts inst wrap
    (fun os started H enc _ => lifted os started H enc)
#print axioms proved
end Go.Proofs.Ytgkobmmannkegaa.lawTaskSteps
