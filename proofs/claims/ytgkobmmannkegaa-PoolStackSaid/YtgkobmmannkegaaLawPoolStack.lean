/-
  This text proves the statement 'PoolStack': for every plan and list of takes the law 'sundiallaw12.PoolStack' returns true, and its arguments read as before. No condition beyond the statement's own.
-/
import Derived.Test.YtgkobmmannkegaaHead
import Derived.Test.YtgkobmmannkegaaLawKitB
import Derived.Test.YtgkobmmannkegaaPoolStack
namespace Go.Proofs.Ytgkobmmannkegaa.lawPoolStack
open Go.ChangeShapes Go.WideShapes Go.ChangeAt Go.RowKit
set_option linter.unusedVariables false

set_option maxRecDepth 100000 in
theorem lifted (os : Os) (started : os.Started) (H : Type) (enc : TypeId × Value → H) :
    ReturnsInHanded {} Try.checked os 31 .any (Rows.poolStackSpec.pre6 enc Try.prog Try.f31 Rows.poolStackRow.domain false) (Rows.poolStackSpec.post enc Try.prog Try.f31 false true false false) := by
  refine returnsInHanded_of_change (C := Try.checked) Try.own started (by kernel_rfl) Try.func31
    (ChangeSpec.witness6 (enc := enc) (C := Try.checked) false ⟨#[], #[planV 0 0 0 0, .slice none 0 0], []⟩ 8 (by kernel_rfl) (by kernel_rfl) (by kernel_rfl) (by kernel_rfl)) ?_
  intro W base args ds gs before hval0 hW hcnd _
  have hval : ∀ (j : Nat) t v, Try.f31.params[j]? = some t → args[j]? = some v → Value.okWide Try.prog W .any base t v := hval0
  have hW' := hW
  obtain ⟨p, q, hA0, hV, rfl, hfz, hnd⟩ := hW
  have hA : DataW.TrodAll enc Try.prog W 0 (fun _ => true) true Try.f31.params.toList args.toList ds p := hA0
  rw [Try.params31] at hA hval
  obtain ⟨v0, vs0, d0, ds0, p0, q0, hargs, rfl, rfl, h0, r0⟩ := trodAll_cons hA
  obtain ⟨v1, vs1, d1, ds1, p1, q1, rfl, rfl, rfl, h1, r1⟩ := trodAll_cons r0
  obtain ⟨rfl, rfl, rfl⟩ := trodAll_nil r1
  obtain rfl : args = #[v0, v1] := by cases args; simp_all
  obtain ⟨rfl, rfl⟩ := trodVars_none hV
  obtain ⟨T, S, L, G, rfl, wT, wS, wL, wG⟩ := open_planW (hval 0 24 v0 rfl rfl) h0
  obtain ⟨a, n, c, rfl, hB⟩ := open_takes (hval 1 51 v1 rfl rfl) h1
  have walk : Calls Try.prog 31 #[planV T S L G, .slice a n c] W fun e w' => e = .returned (.bool true) ∧ Below W.heap.size W w' := by
    exact poolStack_walk T S L G (by have := bounds_u64 wG; omega) a n c W hB
  refine walk.mono fun e W' ⟨he, hb⟩ => ?_
  subst he
  exact ⟨_, rfl, law_post (by kernel_rfl) (by kernel_rfl) rfl ⟨rfl, rfl, rfl⟩ hW' hb⟩

theorem named : Try.pinned.checked.prog.funcNamed Rows.poolStackRow.func = some 31 := by kernel_rfl
theorem facts : joinedFacts Try.pinned.checked.prog 31 Try.f31 Rows.poolStackSpec Rows.poolStackRow = true :=
  facts_here (by kernel_rfl)
theorem inst : Try.f31.isInstance Try.pinned.checked.prog Rows.poolStackRow.origin Rows.poolStackRow.targs := of_decide_eq_true (by kernel_rfl)
theorem wrap : Try.f31.isWrapper Try.pinned.checked.prog Rows.poolStackRow.wrapper Rows.poolStackRow.mainSum := by
  unfold Func.isWrapper; first | (rw [if_pos (by decide +kernel)]; kernel_rfl) | (rw [if_neg (by decide +kernel)]; exact ⟨rfl, rfl⟩)
theorem proved : Rows.PoolStackSaid :=
  OpenClaim.holds_of_wide 31 Try.f31 rfl rfl rfl rfl rfl rfl rfl ⟨rfl, rfl, rfl, rfl, rfl⟩ rfl rfl rfl rfl rfl named Try.func31 facts inst wrap
    (fun os started H enc _ => lifted os started H enc)
#print axioms proved
end Go.Proofs.Ytgkobmmannkegaa.lawPoolStack
