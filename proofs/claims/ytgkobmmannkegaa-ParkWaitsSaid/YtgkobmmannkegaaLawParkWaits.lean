/-
  This text proves the statement 'ParkWaits': for every plan, thread with its limit and the time, and semaphore the law 'sundiallaw29.ParkWaits' returns true, and its arguments read as before. No condition beyond the statement's own.
-/
import Derived.Test.YtgkobmmannkegaaHead
import Derived.Test.YtgkobmmannkegaaLawKitA
import Derived.Test.YtgkobmmannkegaaParkWaits
namespace Go.Proofs.Ytgkobmmannkegaa.lawParkWaits
open Go.ChangeShapes Go.WideShapes Go.ChangeAt Go.RowKit
set_option linter.unusedVariables false

set_option maxRecDepth 100000 in
theorem lifted (os : Os) (started : os.Started) (H : Type) (enc : TypeId × Value → H) :
    ReturnsInHanded {} Try.checked os 25 .any (Rows.parkWaitsSpec.pre6 enc Try.prog Try.f25 Rows.parkWaitsRow.domain false) (Rows.parkWaitsSpec.post enc Try.prog Try.f25 false true false false) := by
  refine returnsInHanded_of_change (C := Try.checked) Try.own started (by kernel_rfl) Try.func25
    (ChangeSpec.witness6 (enc := enc) (C := Try.checked) false ⟨#[], #[planV 0 0 0 0, .agg #[.int .i64 0, .int .i64 0, .int .i64 0], .int .u64 0], []⟩ 8 (by kernel_rfl) (by kernel_rfl) (by kernel_rfl) (by kernel_rfl)) ?_
  intro W base args ds gs before hval0 hW hcnd _
  have hval : ∀ (j : Nat) t v, Try.f25.params[j]? = some t → args[j]? = some v → Value.okWide Try.prog W .any base t v := hval0
  have hW' := hW
  obtain ⟨p, q, hA0, hV, rfl, hfz, hnd⟩ := hW
  have hA : DataW.TrodAll enc Try.prog W 0 (fun _ => true) true Try.f25.params.toList args.toList ds p := hA0
  rw [Try.params25] at hA hval
  obtain ⟨v0, vs0, d0, ds0, p0, q0, hargs, rfl, rfl, h0, r0⟩ := trodAll_cons hA
  obtain ⟨v1, vs1, d1, ds1, p1, q1, rfl, rfl, rfl, h1, r1⟩ := trodAll_cons r0
  obtain ⟨v2, vs2, d2, ds2, p2, q2, rfl, rfl, rfl, h2, r2⟩ := trodAll_cons r1
  obtain ⟨rfl, rfl, rfl⟩ := trodAll_nil r2
  obtain rfl : args = #[v0, v1, v2] := by cases args; simp_all
  obtain ⟨rfl, rfl⟩ := trodVars_none hV
  obtain ⟨T, S, L, G, rfl, wT, wS, wL, wG⟩ := open_planW (hval 0 24 v0 rfl rfl) h0
  obtain ⟨xs, hxl, rfl, hxw⟩ := open_nums .i64 3 Try.underlying141 Try.underlying3 (by kernel_rfl) (by kernel_rfl) (hval 1 141 v1 rfl rfl) h1
  obtain ⟨a0, rfl, _, _, w0⟩ := open_int Try.underlying22 (hval 2 22 v2 rfl rfl) h2
  have walk : Calls Try.prog 25 #[planV T S L G, .agg (xs.map (.int .i64)).toArray, .int .u64 a0] W fun e w' => e = .returned (.bool true) ∧ Below W.heap.size W w' := by
    obtain ⟨th, un, now, rfl⟩ := list3 hxl
    have bn := bounds_i64 (hxw now (by simp))
    have b0 := bounds_u64 w0
    exact parkWaits_walk T S L G th un now a0 (by have := bounds_u64 wG; omega) (by omega) (by omega) (by omega) W
  refine walk.mono fun e W' ⟨he, hb⟩ => ?_
  subst he
  exact ⟨_, rfl, law_post (by kernel_rfl) (by kernel_rfl) rfl ⟨rfl, rfl, rfl⟩ hW' hb⟩

theorem named : Try.pinned.checked.prog.funcNamed Rows.parkWaitsRow.func = some 25 := by kernel_rfl
theorem facts : joinedFacts Try.pinned.checked.prog 25 Try.f25 Rows.parkWaitsSpec Rows.parkWaitsRow = true :=
  facts_here (by kernel_rfl)
theorem inst : Try.f25.isInstance Try.pinned.checked.prog Rows.parkWaitsRow.origin Rows.parkWaitsRow.targs := of_decide_eq_true (by kernel_rfl)
theorem wrap : Try.f25.isWrapper Try.pinned.checked.prog Rows.parkWaitsRow.wrapper Rows.parkWaitsRow.mainSum := by
  unfold Func.isWrapper; first | (rw [if_pos (by decide +kernel)]; kernel_rfl) | (rw [if_neg (by decide +kernel)]; exact ⟨rfl, rfl⟩)
theorem proved : Rows.ParkWaitsSaid :=
  OpenClaim.holds_of_wide 25 Try.f25 rfl rfl rfl rfl rfl rfl rfl ⟨rfl, rfl, rfl, rfl, rfl⟩ rfl rfl rfl rfl rfl named Try.func25 facts inst wrap
    (fun os started H enc _ => lifted os started H enc)
#print axioms proved
end Go.Proofs.Ytgkobmmannkegaa.lawParkWaits
