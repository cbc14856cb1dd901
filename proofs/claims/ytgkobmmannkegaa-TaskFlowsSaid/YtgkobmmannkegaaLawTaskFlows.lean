/-
  This text proves the statement 'TaskFlows': for every two scripts and every list of words the law 'sundiallaw11.TaskFlows' returns true, and its arguments read as before. No condition beyond the statement's own.
-/
import Derived.Test.YtgkobmmannkegaaHead
import Derived.Test.YtgkobmmannkegaaLawKitC
import Derived.Test.YtgkobmmannkegaaFlowLaw
namespace Go.Proofs.Ytgkobmmannkegaa.lawTaskFlows
open Go.ChangeShapes Go.WideShapes Go.ChangeAt Go.RowKit
set_option linter.unusedVariables false

set_option maxRecDepth 100000 in
theorem lifted (os : Os) (started : os.Started) (H : Type) (enc : TypeId × Value → H) :
    ReturnsInHanded {} Try.checked os 19 .any (Rows.taskFlowsSpec.pre6 enc Try.prog Try.f19 Rows.taskFlowsRow.domain false) (Rows.taskFlowsSpec.post enc Try.prog Try.f19 false true false false) := by
  refine returnsInHanded_of_change (C := Try.checked) Try.own started (by kernel_rfl) Try.func19
    (ChangeSpec.witness6 (enc := enc) (C := Try.checked) false ⟨#[], #[.slice none 0 0, .slice none 0 0, .slice none 0 0], []⟩ 8 (by kernel_rfl) (by kernel_rfl) (by kernel_rfl) (by kernel_rfl)) ?_
  intro W base args ds gs before hval0 hW hcnd _
  have hval : ∀ (j : Nat) t v, Try.f19.params[j]? = some t → args[j]? = some v → Value.okWide Try.prog W .any base t v := hval0
  have hW' := hW
  obtain ⟨p, q, hA0, hV, rfl, hfz, hnd⟩ := hW
  have hA : DataW.TrodAll enc Try.prog W 0 (fun _ => true) true Try.f19.params.toList args.toList ds p := hA0
  rw [Try.params19] at hA hval
  obtain ⟨v0, vs0, d0, ds0, p0, q0, hargs, rfl, rfl, h0, r0⟩ := trodAll_cons hA
  obtain ⟨v1, vs1, d1, ds1, p1, q1, rfl, rfl, rfl, h1, r1⟩ := trodAll_cons r0
  obtain ⟨v2, vs2, d2, ds2, p2, q2, rfl, rfl, rfl, h2, r2⟩ := trodAll_cons r1
  obtain ⟨rfl, rfl, rfl⟩ := trodAll_nil r2
  obtain rfl : args = #[v0, v1, v2] := by cases args; simp_all
  obtain ⟨rfl, rfl⟩ := trodVars_none hV
  obtain ⟨sa, sn, sc, rfl, hS⟩ := open_deeds (hval 0 29 v0 rfl rfl) h0
  obtain ⟨ta, tn, tc, rfl, hT⟩ := open_deeds (hval 1 29 v1 rfl rfl) h1
  obtain ⟨a, n, c, rfl, ins, hI, hn⟩ := open_list (hval 2 25 v2 rfl rfl) h2
  have walk : Calls Try.prog 19 #[.slice sa sn sc, .slice ta tn tc, .slice a n c] W fun e w' => e = .returned (.bool true) ∧ Below W.heap.size W w' := by
    by_cases h : 200 < sn ∨ 200 < tn ∨ 500 < n
    · exact taskFlows_skip sa sn sc ta tn tc a n c h W
    · obtain ⟨xs, g1, hl1, hD1, _⟩ := deeds_of_nums hS
      obtain ⟨ys, g2, hl2, hD2, _⟩ := deeds_of_nums hT
      subst hn
      exact taskFlows_walk sa sc sn xs g1 ta tc tn ys g2 a c _ ins W hl1 hl2 rfl hD1 hD2 hI (by omega) (by omega) (by omega)
  refine walk.mono fun e W' ⟨he, hb⟩ => ?_
  subst he
  exact ⟨_, rfl, law_post (by kernel_rfl) (by kernel_rfl) rfl ⟨rfl, rfl, rfl⟩ hW' hb⟩

theorem named : Try.pinned.checked.prog.funcNamed Rows.taskFlowsRow.func = some 19 := by kernel_rfl
theorem facts : joinedFacts Try.pinned.checked.prog 19 Try.f19 Rows.taskFlowsSpec Rows.taskFlowsRow = true :=
  facts_here (by kernel_rfl)
theorem inst : Try.f19.isInstance Try.pinned.checked.prog Rows.taskFlowsRow.origin Rows.taskFlowsRow.targs := of_decide_eq_true (by kernel_rfl)
theorem wrap : Try.f19.isWrapper Try.pinned.checked.prog Rows.taskFlowsRow.wrapper Rows.taskFlowsRow.mainSum := by
  unfold Func.isWrapper; first | (rw [if_pos (by decide +kernel)]; kernel_rfl) | (rw [if_neg (by decide +kernel)]; exact ⟨rfl, rfl⟩)
theorem proved : Rows.TaskFlowsSaid :=
  OpenClaim.holds_of_wide 19 Try.f19 rfl rfl rfl rfl rfl rfl rfl ⟨rfl, rfl, rfl, rfl, rfl⟩ rfl rfl rfl rfl rfl named Try.func19 facts inst wrap
    (fun os started H enc _ => lifted os started H enc)
#print axioms proved
end Go.Proofs.Ytgkobmmannkegaa.lawTaskFlows
