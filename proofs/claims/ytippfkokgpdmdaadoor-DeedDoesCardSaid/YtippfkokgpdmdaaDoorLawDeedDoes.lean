/-
  This text proves the tied card 'DeedDoes': for every list of words and of deeds the law 'sundiallaw07.DeedDoes' returns true, and its arguments read as before; the listed tables of Go's library start as the program's text lays them (the row's condition, tied to the text).
-/
import Derived.Test.YtippfkokgpdmdaaDoorKitE
import Derived.Test.YtippfkokgpdmdaaDoorDeedDoes
namespace Go.Proofs.YtippfkokgpdmdaaDoor.lawDeedDoes
open Go Go.ChangeShapes Go.WideShapes Go.ChangeAt Go.RowKit
set_option linter.unusedVariables false

set_option maxRecDepth 100000 in
theorem lifted (os : Os) (started : os.Started) (H : Type) (enc : TypeId × Value → H) :
    ReturnsInHanded {} Tryd.checked os 10 .any (fun w args => (Rows.deedDoesSpec.pre enc Tryd.prog Tryd.f10 [] false w args ∧ laidMetH Tryd.prog listed w) ∧ sizedMet enc Tryd.prog Tryd.f10 (OpenSpec.ofChange Rows.deedDoesSpec) false w args)
      (Rows.deedDoesSpec.post enc Tryd.prog Tryd.f10 false true false false) := by
  refine returnsInHanded_of_change_and (C := Tryd.checked) (X := fun w _ => laidMetH Tryd.prog listed w) (fun _ _ _ hh h => h.of_heap hh) Tryd.own started (by kernel_rfl) Tryd.func10
    (ChangeSpec.witness_at (enc := enc) (C := Tryd.checked) (os := os) (X := fun w _ => laidMetH Tryd.prog listed w) false (laidWorld os) #[.slice none 0 0, .slice none 0 0] 8 rfl (by kernel_rfl) (by kernel_rfl) (by kernel_rfl) (by kernel_rfl) (by kernel_rfl) (laidWorld_met os _)) ?_
  intro W base args ds gs before hval0 hW _ _ hL _
  have hval : ∀ (j : Nat) t v, Tryd.f10.params[j]? = some t → args[j]? = some v → Value.okWide Tryd.prog W .any base t v := hval0
  have hW' := hW
  obtain ⟨p, q, hA0, hV, rfl, hfz, hnd⟩ := hW
  have hA : DataW.TrodAll enc Tryd.prog W 0 (fun _ => true) true Tryd.f10.params.toList args.toList ds p := hA0
  rw [Tryd.params10] at hA hval
  obtain ⟨v0, vs0, d0, ds0, p0, q0, hargs, rfl, rfl, h0, r0⟩ := trodAll_cons hA
  obtain ⟨v1, vs1, d1, ds1, p1, q1, rfl, rfl, rfl, h1, r1⟩ := trodAll_cons r0
  obtain ⟨rfl, rfl, rfl⟩ := trodAll_nil r1
  obtain rfl : args = #[v0, v1] := by cases args; simp_all
  obtain ⟨rfl, rfl⟩ := trodVars_none hV
  obtain ⟨a, n, c, rfl, ins, hI, hn⟩ := open_list (hval 0 52 v0 rfl rfl) h0
  obtain ⟨sa, sn, sc, rfl, hS⟩ := open_deeds (hval 1 53 v1 rfl rfl) h1
  have walk : Calls Tryd.prog 10 #[.slice a n c, .slice sa sn sc] W fun e w' => e = .returned (.bool true) ∧ Below W.heap.size W w' := by
    by_cases h : 500 < n ∨ 100 < sn
    · exact deedDoes_skip a n c sa sn sc h W
    · obtain ⟨ds, g1, hl1, hD1, _⟩ := deeds_of_nums hS
      exact deedDoes_walk a n c ins hn sa sn sc g1 ds hl1 W hI hD1 (by omega) (by omega)
  refine walk.mono fun e W' ⟨he, hb⟩ => ?_
  subst he
  exact ⟨_, rfl, law_post (by kernel_rfl) (by kernel_rfl) rfl ⟨rfl, rfl, rfl⟩ hW' hb⟩

theorem named : Tryd.pinned.checked.prog.funcNamed Rows.deedDoesRow.func = some 10 := by kernel_rfl
theorem facts : joinedFacts Tryd.pinned.checked.prog 10 Tryd.f10 Rows.deedDoesSpec Rows.deedDoesRow = true :=
  facts_here (by kernel_rfl)
theorem inst : Tryd.f10.isInstance Tryd.pinned.checked.prog Rows.deedDoesRow.origin Rows.deedDoesRow.targs := of_decide_eq_true (by kernel_rfl)
theorem wrap : Tryd.f10.isWrapper Tryd.pinned.checked.prog Rows.deedDoesRow.wrapper Rows.deedDoesRow.mainSum := by
  unfold Func.isWrapper; first | (rw [if_pos (by decide +kernel)]; kernel_rfl) | (rw [if_neg (by decide +kernel)]; exact ⟨rfl, rfl⟩)
theorem row : Rows.DeedDoesSaid :=
  OpenClaim.holds_of_wide 10 Tryd.f10 rfl rfl rfl rfl rfl rfl rfl ⟨rfl, rfl, rfl, rfl, rfl⟩ rfl rfl rfl rfl rfl named Tryd.func10 facts inst wrap
    (fun os started H enc _ => lifted os started H enc)
theorem proved : Rows.DeedDoesCardSaid :=
  Claim7.holds_tied_plain_at .later [] [.data, .data, .data] true (true, "c78390223623de0d311131a84194735b15d2ce982e96a3d714339cbd5fc91d6e") false
    row (fun _ h => by cases h) (by kernel_rfl) (fun _ h => by cases h) deedDoes_row_tie rfl ⟨rfl, rfl⟩ (by kernel_rfl) rfl
    (fun f fn hf hfn => by
      obtain rfl : f = 10 := Option.some.inj (named.symm.trans hf) |>.symm
      obtain rfl : fn = Tryd.f10 := (Option.some.inj (Tryd.func10.symm.trans hfn)).symm
      exact ⟨by kernel_rfl, fun j t ht => by
        rw [Tryd.params10] at ht
        have h3 : t = 52 ∨ t = 53 := by
          rcases j with _ | _ | j <;> simp at ht <;> (subst ht; simp)
        rcases h3 with rfl | rfl
        · exact (show Tryd.prog.wantsStandIn 52 = false by kernel_rfl)
        · exact (show Tryd.prog.wantsStandIn 53 = false by kernel_rfl)⟩)
    (by kernel_rfl)
#print axioms proved
end Go.Proofs.YtippfkokgpdmdaaDoor.lawDeedDoes
