/-
  This text proves the statement 'PoolPushes': for every plan, index and list of found values the law 'sundiallaw12.PoolPushes' returns true, and its arguments read as before. No condition beyond the statement's own.
-/
import Derived.Test.YtgkobmmannkegaaHead
import Derived.Test.YtgkobmmannkegaaLawKitA
import Derived.Test.YtgkobmmannkegaaPoolClaims
namespace Go.Proofs.Ytgkobmmannkegaa.lawPoolPushes
open Go.ChangeShapes Go.WideShapes Go.ChangeAt Go.RowKit
set_option linter.unusedVariables false

set_option maxRecDepth 100000 in
theorem lifted (os : Os) (started : os.Started) (H : Type) (enc : TypeId × Value → H) :
    ReturnsInHanded {} Try.checked os 30 .any (Rows.poolPushesSpec.pre6 enc Try.prog Try.f30 Rows.poolPushesRow.domain false) (Rows.poolPushesSpec.post enc Try.prog Try.f30 false true false false) := by
  refine returnsInHanded_of_change (C := Try.checked) Try.own started (by kernel_rfl) Try.func30
    (ChangeSpec.witness6 (enc := enc) (C := Try.checked) false ⟨#[], #[planV 0 0 0 0, .int .i64 0, .slice none 0 0], []⟩ 8 (by kernel_rfl) (by kernel_rfl) (by kernel_rfl) (by kernel_rfl)) ?_
  intro W base args ds gs before hval0 hW hcnd _
  have hval : ∀ (j : Nat) t v, Try.f30.params[j]? = some t → args[j]? = some v → Value.okWide Try.prog W .any base t v := hval0
  have hW' := hW
  obtain ⟨p, q, hA0, hV, rfl, hfz, hnd⟩ := hW
  have hA : DataW.TrodAll enc Try.prog W 0 (fun _ => true) true Try.f30.params.toList args.toList ds p := hA0
  rw [Try.params30] at hA hval
  obtain ⟨v0, vs0, d0, ds0, p0, q0, hargs, rfl, rfl, h0, r0⟩ := trodAll_cons hA
  obtain ⟨v1, vs1, d1, ds1, p1, q1, rfl, rfl, rfl, h1, r1⟩ := trodAll_cons r0
  obtain ⟨v2, vs2, d2, ds2, p2, q2, rfl, rfl, rfl, h2, r2⟩ := trodAll_cons r1
  obtain ⟨rfl, rfl, rfl⟩ := trodAll_nil r2
  obtain rfl : args = #[v0, v1, v2] := by cases args; simp_all
  obtain ⟨rfl, rfl⟩ := trodVars_none hV
  obtain ⟨T, S, L, G, rfl⟩ := open_plan (hval 0 24 v0 rfl rfl) h0
  obtain ⟨a0, rfl, _, _, w0⟩ := open_int Try.underlying3 (hval 1 3 v1 rfl rfl) h1
  obtain ⟨a, n, c, rfl, ins, hI, hn, hw⟩ := open_listW (hval 2 25 v2 rfl rfl) h2
  have walk : Calls Try.prog 30 #[planV T S L G, .int .i64 a0, .slice a n c] W fun e w' => e = .returned (.bool true) ∧ Below W.heap.size W w' := by
    by_cases h : n ≤ 300
    · exact poolPushes_walk T S L G a0 _ ins W hI (by omega) hw
    · exact poolPushes_long T S L G a0 a n c W (by omega)
  refine walk.mono fun e W' ⟨he, hb⟩ => ?_
  subst he
  exact ⟨_, rfl, law_post (by kernel_rfl) (by kernel_rfl) rfl ⟨rfl, rfl, rfl⟩ hW' hb⟩

theorem named : Try.pinned.checked.prog.funcNamed Rows.poolPushesRow.func = some 30 := by kernel_rfl
theorem facts : joinedFacts Try.pinned.checked.prog 30 Try.f30 Rows.poolPushesSpec Rows.poolPushesRow = true :=
  facts_here (by kernel_rfl)
theorem inst : Try.f30.isInstance Try.pinned.checked.prog Rows.poolPushesRow.origin Rows.poolPushesRow.targs := of_decide_eq_true (by kernel_rfl)
theorem wrap : Try.f30.isWrapper Try.pinned.checked.prog Rows.poolPushesRow.wrapper Rows.poolPushesRow.mainSum := by
  unfold Func.isWrapper; first | (rw [if_pos (by decide +kernel)]; kernel_rfl) | (rw [if_neg (by decide +kernel)]; exact ⟨rfl, rfl⟩)
theorem proved : Rows.PoolPushesSaid :=
  OpenClaim.holds_of_wide 30 Try.f30 rfl rfl rfl rfl rfl rfl rfl ⟨rfl, rfl, rfl, rfl, rfl⟩ rfl rfl rfl rfl rfl named Try.func30 facts inst wrap
    (fun os started H enc _ => lifted os started H enc)
#print axioms proved
end Go.Proofs.Ytgkobmmannkegaa.lawPoolPushes
