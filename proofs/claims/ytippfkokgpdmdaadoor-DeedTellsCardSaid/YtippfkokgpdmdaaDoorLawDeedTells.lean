/-
  This text proves the tied card 'DeedTells': for every word and deed the law 'sundiallaw07.DeedTells' returns true, and its arguments read as before; the listed tables of Go's library start as the program's text lays them (the row's condition, tied to the text).
-/
import Derived.Test.YtippfkokgpdmdaaDoorKitU
import Derived.Test.YtippfkokgpdmdaaDoorDeedTells
namespace Go.Proofs.YtippfkokgpdmdaaDoor.lawDeedTells
open Go Go.ChangeShapes Go.WideShapes Go.ChangeAt Go.RowKit
set_option linter.unusedVariables false

set_option maxRecDepth 100000 in
theorem lifted (os : Os) (started : os.Started) (H : Type) (enc : TypeId × Value → H) :
    ReturnsInHanded {} Tryd.checked os 9 .any (fun w args => (Rows.deedTellsSpec.pre enc Tryd.prog Tryd.f9 [] false w args ∧ laidMetH Tryd.prog listed w) ∧ sizedMet enc Tryd.prog Tryd.f9 (OpenSpec.ofChange Rows.deedTellsSpec) false w args)
      (Rows.deedTellsSpec.post enc Tryd.prog Tryd.f9 false true false false) := by
  refine returnsInHanded_of_change_and (C := Tryd.checked) (X := fun w _ => laidMetH Tryd.prog listed w) (fun _ _ _ hh h => h.of_heap hh) Tryd.own started (by kernel_rfl) Tryd.func9
    (ChangeSpec.witness_at (enc := enc) (C := Tryd.checked) (os := os) (X := fun w _ => laidMetH Tryd.prog listed w) false (laidWorld os) #[.int .u64 0, .agg #[.int .i64 0, .int .i64 0, .int .u64 0, .int .u64 0, .int .u64 0]] 8 rfl (by kernel_rfl) (by kernel_rfl) (by kernel_rfl) (by kernel_rfl) (by kernel_rfl) (laidWorld_met os _)) ?_
  intro W base args ds gs before hval0 hW _ _ hL _
  have hval : ∀ (j : Nat) t v, Tryd.f9.params[j]? = some t → args[j]? = some v → Value.okWide Tryd.prog W .any base t v := hval0
  have hW' := hW
  obtain ⟨p, q, hA0, hV, rfl, hfz, hnd⟩ := hW
  have hA : DataW.TrodAll enc Tryd.prog W 0 (fun _ => true) true Tryd.f9.params.toList args.toList ds p := hA0
  rw [Tryd.params9] at hA hval
  obtain ⟨v0, vs0, d0, ds0, p0, q0, hargs, rfl, rfl, h0, r0⟩ := trodAll_cons hA
  obtain ⟨v1, vs1, d1, ds1, p1, q1, rfl, rfl, rfl, h1, r1⟩ := trodAll_cons r0
  obtain ⟨rfl, rfl, rfl⟩ := trodAll_nil r1
  obtain rfl : args = #[v0, v1] := by cases args; simp_all
  obtain ⟨rfl, rfl⟩ := trodVars_none hV
  obtain ⟨a0, rfl, _, _, w0⟩ := open_int Tryd.underlying22 (hval 0 22 v0 rfl rfl) h0
  obtain ⟨dk, dat, da, db, dby, rfl, wat, wa, wb, wby⟩ := open_deedW (hval 1 48 v1 rfl rfl) h1
  have walk : Calls Tryd.prog 9 #[.int .u64 a0, .agg #[.int .i64 dk, .int .i64 dat, .int .u64 da, .int .u64 db, .int .u64 dby]] W fun e w' => e = .returned (.bool true) ∧ Below W.heap.size W w' := by
    have c0 := bounds_i64 wat
    have c1 := bounds_u64' wa
    have c2 := bounds_u64' wb
    have c3 := bounds_u64' wby
    exact deedTells_walk a0 dk dat da db dby c0.1 c0.2 c1.1 c1.2 c2.1 c2.2 c3.1 c3.2 W (tab_of_listed hL)
  refine walk.mono fun e W' ⟨he, hb⟩ => ?_
  subst he
  exact ⟨_, rfl, law_post (by kernel_rfl) (by kernel_rfl) rfl ⟨rfl, rfl, rfl⟩ hW' hb⟩

theorem named : Tryd.pinned.checked.prog.funcNamed Rows.deedTellsRow.func = some 9 := by kernel_rfl
theorem facts : joinedFacts Tryd.pinned.checked.prog 9 Tryd.f9 Rows.deedTellsSpec Rows.deedTellsRow = true :=
  facts_here (by kernel_rfl)
theorem inst : Tryd.f9.isInstance Tryd.pinned.checked.prog Rows.deedTellsRow.origin Rows.deedTellsRow.targs := of_decide_eq_true (by kernel_rfl)
theorem wrap : Tryd.f9.isWrapper Tryd.pinned.checked.prog Rows.deedTellsRow.wrapper Rows.deedTellsRow.mainSum := by
  unfold Func.isWrapper; first | (rw [if_pos (by decide +kernel)]; kernel_rfl) | (rw [if_neg (by decide +kernel)]; exact ⟨rfl, rfl⟩)
theorem row : Rows.DeedTellsSaid :=
  OpenClaim.holds_of_wide 9 Tryd.f9 rfl rfl rfl rfl rfl rfl rfl ⟨rfl, rfl, rfl, rfl, rfl⟩ rfl rfl rfl rfl rfl named Tryd.func9 facts inst wrap
    (fun os started H enc _ => lifted os started H enc)
theorem proved : Rows.DeedTellsCardSaid :=
  Claim7.holds_tied_plain_at .later [] [.data, .data, .data] true (true, "c78390223623de0d311131a84194735b15d2ce982e96a3d714339cbd5fc91d6e") false
    row (fun _ h => by cases h) (by kernel_rfl) (fun _ h => by cases h) deedTells_row_tie rfl ⟨rfl, rfl⟩ (by kernel_rfl) rfl
    (fun f fn hf hfn => by
      obtain rfl : f = 9 := Option.some.inj (named.symm.trans hf) |>.symm
      obtain rfl : fn = Tryd.f9 := (Option.some.inj (Tryd.func9.symm.trans hfn)).symm
      exact ⟨by kernel_rfl, fun j t ht => by
        rw [Tryd.params9] at ht
        have h3 : t = 22 ∨ t = 48 := by
          rcases j with _ | _ | j <;> simp at ht <;> (subst ht; simp)
        rcases h3 with rfl | rfl
        · exact (show Tryd.prog.wantsStandIn 22 = false by kernel_rfl)
        · exact (show Tryd.prog.wantsStandIn 48 = false by kernel_rfl)⟩)
    (by kernel_rfl)
#print axioms proved
end Go.Proofs.YtippfkokgpdmdaaDoor.lawDeedTells
