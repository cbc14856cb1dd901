/-
  This text proves the statement 'CellsNew': for every number of words and every access the law 'sundiallaw06.CellsNew' returns true, and its arguments read as before. No condition beyond the statement's own.
-/
import Derived.Test.YtgkobmmannkegaaHead
import Derived.Test.YtgkobmmannkegaaLawKitC
import Derived.Test.YtgkobmmannkegaaCellsNew
namespace Go.Proofs.Ytgkobmmannkegaa.lawCellsNew
open Go.ChangeShapes Go.WideShapes Go.ChangeAt Go.RowKit
set_option linter.unusedVariables false

set_option maxRecDepth 100000 in
theorem lifted (os : Os) (started : os.Started) (H : Type) (enc : TypeId × Value → H) :
    ReturnsInHanded {} Try.checked os 13 .any (Rows.cellsNewSpec.pre6 enc Try.prog Try.f13 Rows.cellsNewRow.domain false) (Rows.cellsNewSpec.post enc Try.prog Try.f13 false true false false) := by
  refine returnsInHanded_of_change (C := Try.checked) Try.own started (by kernel_rfl) Try.func13
    (ChangeSpec.witness6 (enc := enc) (C := Try.checked) false ⟨#[], #[.int .i64 0, opV 0 0 0 0], []⟩ 8 (by kernel_rfl) (by kernel_rfl) (by kernel_rfl) (by kernel_rfl)) ?_
  intro W base args ds gs before hval0 hW hcnd _
  have hval : ∀ (j : Nat) t v, Try.f13.params[j]? = some t → args[j]? = some v → Value.okWide Try.prog W .any base t v := hval0
  have hW' := hW
  obtain ⟨p, q, hA0, hV, rfl, hfz, hnd⟩ := hW
  have hA : DataW.TrodAll enc Try.prog W 0 (fun _ => true) true Try.f13.params.toList args.toList ds p := hA0
  rw [Try.params13] at hA hval
  obtain ⟨v0, vs0, d0, ds0, p0, q0, hargs, rfl, rfl, h0, r0⟩ := trodAll_cons hA
  obtain ⟨v1, vs1, d1, ds1, p1, q1, rfl, rfl, rfl, h1, r1⟩ := trodAll_cons r0
  obtain ⟨rfl, rfl, rfl⟩ := trodAll_nil r1
  obtain rfl : args = #[v0, v1] := by cases args; simp_all
  obtain ⟨rfl, rfl⟩ := trodVars_none hV
  obtain ⟨a0, rfl, _, _, w0⟩ := open_int Try.underlying3 (hval 0 3 v0 rfl rfl) h0
  obtain ⟨ok, oat, oa, ob, rfl⟩ := open_op (hval 1 84 v1 rfl rfl) h1
  have walk : Calls Try.prog 13 #[.int .i64 a0, opV ok oat oa ob] W fun e w' => e = .returned (.bool true) ∧ Below W.heap.size W w' := by
    by_cases h0 : a0 < 0
    · exact cellsNew_low a0 ok oat oa ob h0 W
    · by_cases h1 : 4096 < a0
      · exact cellsNew_high a0 ok oat oa ob h1 W
      · obtain ⟨m, rfl⟩ : ∃ m : Nat, a0 = m := ⟨a0.toNat, by omega⟩
        exact cellsNew_yes m ok oat oa ob (by omega) W
  refine walk.mono fun e W' ⟨he, hb⟩ => ?_
  subst he
  exact ⟨_, rfl, law_post (by kernel_rfl) (by kernel_rfl) rfl ⟨rfl, rfl, rfl⟩ hW' hb⟩

theorem named : Try.pinned.checked.prog.funcNamed Rows.cellsNewRow.func = some 13 := by kernel_rfl
theorem facts : joinedFacts Try.pinned.checked.prog 13 Try.f13 Rows.cellsNewSpec Rows.cellsNewRow = true :=
  facts_here (by kernel_rfl)
theorem inst : Try.f13.isInstance Try.pinned.checked.prog Rows.cellsNewRow.origin Rows.cellsNewRow.targs := of_decide_eq_true (by kernel_rfl)
theorem wrap : Try.f13.isWrapper Try.pinned.checked.prog Rows.cellsNewRow.wrapper Rows.cellsNewRow.mainSum := by
  unfold Func.isWrapper; first | (rw [if_pos (by decide +kernel)]; kernel_rfl) | (rw [if_neg (by decide +kernel)]; exact ⟨rfl, rfl⟩)
theorem proved : Rows.CellsNewSaid :=
  OpenClaim.holds_of_wide 13 Try.f13 rfl rfl rfl rfl rfl rfl rfl ⟨rfl, rfl, rfl, rfl, rfl⟩ rfl rfl rfl rfl rfl named Try.func13 facts inst wrap
    (fun os started H enc _ => lifted os started H enc)
#print axioms proved
end Go.Proofs.Ytgkobmmannkegaa.lawCellsNew
