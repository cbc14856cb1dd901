/-
  This text proves the tied card 'DeedOne': for every list of words and every deed the law 'sundiallaw07.DeedOne' returns true, and its arguments read as before; the listed tables of Go's library start as the program's text lays them (the row's condition, tied to the text).
-/
import Derived.Test.YtippfkokgpdmdaaDoorKitE
import Derived.Test.YtippfkokgpdmdaaDoorDeedOne
namespace Go.Proofs.YtippfkokgpdmdaaDoor.lawDeedOne
open Go Go.ChangeShapes Go.WideShapes Go.ChangeAt Go.RowKit
set_option linter.unusedVariables false

set_option maxRecDepth 100000 in
theorem lifted (os : Os) (started : os.Started) (H : Type) (enc : TypeId × Value → H) :
    ReturnsInHanded {} Tryd.checked os 11 .any (fun w args => (Rows.deedOneSpec.pre enc Tryd.prog Tryd.f11 [] false w args ∧ laidMetH Tryd.prog listed w) ∧ sizedMet enc Tryd.prog Tryd.f11 (OpenSpec.ofChange Rows.deedOneSpec) false w args)
      (Rows.deedOneSpec.post enc Tryd.prog Tryd.f11 false true false false) := by
  refine returnsInHanded_of_change_and (C := Tryd.checked) (X := fun w _ => laidMetH Tryd.prog listed w) (fun _ _ _ hh h => h.of_heap hh) Tryd.own started (by kernel_rfl) Tryd.func11
    (ChangeSpec.witness_at (enc := enc) (C := Tryd.checked) (os := os) (X := fun w _ => laidMetH Tryd.prog listed w) false (laidWorld os) #[.slice none 0 0, .agg #[.int .i64 0, .int .i64 0, .int .u64 0, .int .u64 0, .int .u64 0]] 8 rfl (by kernel_rfl) (by kernel_rfl) (by kernel_rfl) (by kernel_rfl) (by kernel_rfl) (laidWorld_met os _)) ?_
  intro W base args ds gs before hval0 hW _ _ hL _
  have hval : ∀ (j : Nat) t v, Tryd.f11.params[j]? = some t → args[j]? = some v → Value.okWide Tryd.prog W .any base t v := hval0
  have hW' := hW
  obtain ⟨p, q, hA0, hV, rfl, hfz, hnd⟩ := hW
  have hA : DataW.TrodAll enc Tryd.prog W 0 (fun _ => true) true Tryd.f11.params.toList args.toList ds p := hA0
  rw [Tryd.params11] at hA hval
  obtain ⟨v0, vs0, d0, ds0, p0, q0, hargs, rfl, rfl, h0, r0⟩ := trodAll_cons hA
  obtain ⟨v1, vs1, d1, ds1, p1, q1, rfl, rfl, rfl, h1, r1⟩ := trodAll_cons r0
  obtain ⟨rfl, rfl, rfl⟩ := trodAll_nil r1
  obtain rfl : args = #[v0, v1] := by cases args; simp_all
  obtain ⟨rfl, rfl⟩ := trodVars_none hV
  obtain ⟨a, n, c, rfl, ins, hI, hn⟩ := open_list (hval 0 52 v0 rfl rfl) h0
  obtain ⟨dk, dat, da, db, dby, rfl⟩ := open_deed (hval 1 48 v1 rfl rfl) h1
  have walk : Calls Tryd.prog 11 #[.slice a n c, .agg #[.int .i64 dk, .int .i64 dat, .int .u64 da, .int .u64 db, .int .u64 dby]] W fun e w' => e = .returned (.bool true) ∧ Below W.heap.size W w' := by
    by_cases h : 300 < n ∨ dk < 1 ∨ 4 < dk
    · exact deedOne_skip a n c ⟨dk, dat, da, db, dby⟩ h W
    · exact deedOne_walk a n c ins hn ⟨dk, dat, da, db, dby⟩ W hI (by omega) (by simp; omega)
  refine walk.mono fun e W' ⟨he, hb⟩ => ?_
  subst he
  exact ⟨_, rfl, law_post (by kernel_rfl) (by kernel_rfl) rfl ⟨rfl, rfl, rfl⟩ hW' hb⟩

theorem named : Tryd.pinned.checked.prog.funcNamed Rows.deedOneRow.func = some 11 := by kernel_rfl
theorem facts : joinedFacts Tryd.pinned.checked.prog 11 Tryd.f11 Rows.deedOneSpec Rows.deedOneRow = true :=
  facts_here (by kernel_rfl)
theorem inst : Tryd.f11.isInstance Tryd.pinned.checked.prog Rows.deedOneRow.origin Rows.deedOneRow.targs := of_decide_eq_true (by kernel_rfl)
theorem wrap : Tryd.f11.isWrapper Tryd.pinned.checked.prog Rows.deedOneRow.wrapper Rows.deedOneRow.mainSum := by
  unfold Func.isWrapper; first | (rw [if_pos (by decide +kernel)]; kernel_rfl) | (rw [if_neg (by decide +kernel)]; exact ⟨rfl, rfl⟩)
theorem row : Rows.DeedOneSaid :=
  OpenClaim.holds_of_wide 11 Tryd.f11 rfl rfl rfl rfl rfl rfl rfl ⟨rfl, rfl, rfl, rfl, rfl⟩ rfl rfl rfl rfl rfl named Tryd.func11 facts inst wrap
    (fun os started H enc _ => lifted os started H enc)
theorem proved : Rows.DeedOneCardSaid :=
  Claim7.holds_tied_plain_at .later [] [.data, .data, .data] true (true, "c78390223623de0d311131a84194735b15d2ce982e96a3d714339cbd5fc91d6e") false
    row (fun _ h => by cases h) (by kernel_rfl) (fun _ h => by cases h) deedOne_row_tie rfl ⟨rfl, rfl⟩ (by kernel_rfl) rfl
    (fun f fn hf hfn => by
      obtain rfl : f = 11 := Option.some.inj (named.symm.trans hf) |>.symm
      obtain rfl : fn = Tryd.f11 := (Option.some.inj (Tryd.func11.symm.trans hfn)).symm
      exact ⟨by kernel_rfl, fun j t ht => by
        rw [Tryd.params11] at ht
        have h3 : t = 48 ∨ t = 52 := by
          rcases j with _ | _ | j <;> simp at ht <;> (subst ht; simp)
        rcases h3 with rfl | rfl
        · exact (show Tryd.prog.wantsStandIn 48 = false by kernel_rfl)
        · exact (show Tryd.prog.wantsStandIn 52 = false by kernel_rfl)⟩)
    (by kernel_rfl)
#print axioms proved
end Go.Proofs.YtippfkokgpdmdaaDoor.lawDeedOne
