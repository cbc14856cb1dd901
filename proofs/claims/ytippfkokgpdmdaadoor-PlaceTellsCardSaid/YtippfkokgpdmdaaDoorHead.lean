/-
  The closed facts of a row, those of the program alone apart: the words of the program's head are spelt as a list of signs first, for the kernel takes no long literal apart.
-/
import Derived.Test.YtippfkokgpdmdaaDoorRows
import Derived.Test.YtippfkokgpdmdaaDoorChecked
import Derived.WalkKit
import Derived.ProofKit
namespace Go.Proofs.YtippfkokgpdmdaaDoor
open Go Go.RowKit
set_option linter.unusedVariables false

def headNums : List Nat := [
  104, 97, 114, 110, 101, 115, 115, 32, 99, 55, 56, 51, 57, 48, 50, 50, 51, 54, 50, 51, 100, 101, 48, 100, 51, 49, 49, 49, 51, 49, 97, 56, 52, 49, 57, 52, 55, 51, 53, 98,
  49, 53, 100, 50, 99, 101, 57, 56, 50, 101, 57, 54, 97, 51, 100, 55, 49, 52, 51, 51, 57, 99, 98, 100, 53, 102, 99, 57, 49, 100, 54, 101, 32, 99, 117, 116, 32, 97, 116, 32,
  115, 117, 110, 100, 105, 97, 108, 47, 115, 117, 110, 100, 105, 97, 108, 108, 97, 119, 48, 52, 46, 83, 116, 97, 116, 101, 84, 101, 108, 108, 115, 32, 115, 117, 110, 100, 105, 97, 108, 47,
  115, 117, 110, 100, 105, 97, 108, 108, 97, 119, 48, 52, 46, 83, 116, 97, 116, 101, 66, 97, 99, 107, 32, 115, 117, 110, 100, 105, 97, 108, 47, 115, 117, 110, 100, 105, 97, 108, 108, 97,
  119, 48, 52, 46, 83, 116, 97, 116, 101, 79, 110, 99, 101, 32, 115, 117, 110, 100, 105, 97, 108, 47, 115, 117, 110, 100, 105, 97, 108, 108, 97, 119, 48, 57, 46, 80, 108, 97, 99, 101,
  84, 101, 108, 108, 115, 32, 115, 117, 110, 100, 105, 97, 108, 47, 115, 117, 110, 100, 105, 97, 108, 108, 97, 119, 48, 57, 46, 80, 108, 97, 99, 101, 66, 97, 99, 107, 32, 115, 117, 110,
  100, 105, 97, 108, 47, 115, 117, 110, 100, 105, 97, 108, 108, 97, 119, 48, 57, 46, 80, 108, 97, 99, 101, 87, 111, 114, 100, 115, 32, 115, 117, 110, 100, 105, 97, 108, 47, 115, 117, 110,
  100, 105, 97, 108, 108, 97, 119, 48, 55, 46, 68, 101, 101, 100, 84, 101, 108, 108, 115, 32, 115, 117, 110, 100, 105, 97, 108, 47, 115, 117, 110, 100, 105, 97, 108, 108, 97, 119, 48, 55,
  46, 68, 101, 101, 100, 68, 111, 101, 115, 32, 115, 117, 110, 100, 105, 97, 108, 47, 115, 117, 110, 100, 105, 97, 108, 108, 97, 119, 48, 55, 46, 68, 101, 101, 100, 79, 110, 101]
set_option maxRecDepth 100000 in
theorem head_lit : Tryd.prog.initOrder = String.ofList (headNums.map Char.ofNat) := by kernel_rfl
theorem head_list : Tryd.prog.initOrder.toList = headNums.map Char.ofNat := by rw [head_lit, String.toList_ofList]
def cutW : List Char := [Char.ofNat 99, Char.ofNat 117, Char.ofNat 116]
set_option maxRecDepth 100000 in
theorem head_words : ∃ rest, behindMainWord (wordsSigns Tryd.prog.initOrder.toList) = cutW :: rest := by
  rw [head_list]
  exact ⟨wordsSigns ((headNums.drop 77).map Char.ofNat), by kernel_rfl⟩
theorem head_later : Tryd.prog.laysLater = false := by kernel_rfl
theorem head_reflect : Tryd.prog.bearsReflect = false := by kernel_rfl
theorem head_door : Tryd.prog.doorFits [] = true := by kernel_rfl
theorem strip_cut (rest : List (List Char)) : stripLifts liftWords (cutW :: rest) = ([], cutW :: rest) := by
  have h : ∀ os : List String, (os.all fun o => cutW != o.toList) = true → stripLifts os (cutW :: rest) = ([], cutW :: rest) := by
    intro os
    induction os with
    | nil => intro _; rfl
    | cons o os ih =>
      intro ho
      simp only [List.all_cons, Bool.and_eq_true, bne_iff_ne] at ho
      simp only [stripLifts]
      rw [if_neg (by simpa using ho.1)]
      exact ih ho.2
  exact h _ (by kernel_rfl)
theorem cut_cut : cutW = "cut".toList := by kernel_rfl
theorem cut_not : (cutW == "gc".toList) = false ∧ (cutW == "spec".toList) = false ∧ (cutW == "carried".toList) = false ∧ (cutW == "finals".toList) = false := by
  refine ⟨?_, ?_, ?_, ?_⟩ <;> kernel_rfl
theorem lifts_of {P : Program} (h : ∃ rest, behindMainWord (wordsSigns P.initOrder.toList) = cutW :: rest) : P.headLifts = [] := by
  obtain ⟨rest, h⟩ := h
  unfold Program.headLifts
  rw [h, strip_cut]; simp
theorem mayEnter_of {P : Program} (h : ∃ rest, behindMainWord (wordsSigns P.initOrder.toList) = cutW :: rest) (h1 : P.laysLater = false) (h2 : P.bearsReflect = false) (h3 : P.doorFits [] = true) : P.mayEnter = true := by
  obtain ⟨rest, h⟩ := h
  unfold Program.mayEnter
  rw [h]
  simp only [strip_cut, cut_not, h1, h2, h3, ← cut_cut]
  simp
theorem final_of {P : Program} (h : ∃ rest, behindMainWord (wordsSigns P.initOrder.toList) = cutW :: rest) : P.liftsFinal = false := by
  have hl := lifts_of h
  obtain ⟨rest, h⟩ := h
  unfold Program.liftsFinal
  rw [hl, h]
  have := cut_not.2.2.1
  simp_all
theorem make_of {P : Program} (h : ∃ rest, behindMainWord (wordsSigns P.initOrder.toList) = cutW :: rest) : P.make = some .cut := by
  obtain ⟨rest, h⟩ := h
  unfold Program.make
  rw [h]
  simp only [cut_not, ← cut_cut]
  simp
theorem head_mayEnter : Tryd.prog.mayEnter = true := mayEnter_of head_words head_later head_reflect head_door
theorem head_final : Tryd.prog.liftsFinal = false := final_of head_words
theorem head_make : Tryd.prog.make = some .cut := make_of head_words
theorem head_heard : Tryd.prog.stopsHeard = true := by kernel_rfl
theorem head_laidOut : laidOutB Tryd.prog = true := by kernel_rfl
theorem head_mapsRowed : mapsRowed Tryd.prog = true := by kernel_rfl
theorem head_plainKeys : Tryd.prog.plainKeys = true := by kernel_rfl
/-- The closed facts of a row, without those that read the head. -/
def rowFacts (P : Program) (f : FuncId) (fn : Func) (s : ChangeSpec) (c : OpenClaim) : Bool :=
  c.wf (OpenSpec.ofChange s) && fn.params.all (P.readableRec ·) && namedTie P c.named s.vars && (c.stops == []) && (P.stops == []) && (c.knobs == []) && (P.stopKnobs == []) &&
  (c.inPlace == P.inPlace f) && (c.unfollowed == P.unfollowed f) && (c.recurses == P.recurses f) && (c.named == P.varsNamed f) &&
  (c.maps == (fn.params.toList ++ s.plain.varTypes P).any (P.mapsRec ·)) && (c.ifaces == (fn.params.toList ++ s.plain.varTypes P).any (P.ifacesRec ·)) && (c.mapsOut == P.mapsAmong fn.resultTypes.toList) &&
  (c.loops == (fn.params.toList ++ s.plain.varTypes P).any (P.loopsFrom ·)) && (c.wideKeys == (fn.params.toList ++ s.plain.varTypes P ++ fn.resultTypes.toList).any (P.wideKeysFrom ·)) &&
  s.vars.all (P.varReadable ·) && fn.resultTypes.all (fun t => P.readableRec t && decide (t < P.types.size)) && (c.ifacesOut == fn.resultTypes.toList.any (P.ifacesRec ·)) && (c.loopsOut == fn.resultTypes.toList.any (P.loopsFrom ·)) &&
  (c.plainKeys == true) && c.shortTexts.isNone && (c.lifted == false) && (some Make.cut == some c.make) && (c.kinds == (if c.domain.isEmpty then [] else fn.params.toList.map fun t => match P.underlying t with | some (.int k) => some k | _ => none)) && (c.pinned == c.pinnedBy) &&
  (c.veiled == (fn.params.toList ++ s.plain.varTypes P ++ fn.resultTypes.toList).any (P.veiledRec ·)) && c.veiledFits P fn.params.toList (fn.params.toList ++ s.plain.varTypes P ++ fn.resultTypes.toList)
theorem facts_of {P : Program} {f : FuncId} {fn : Func} {s : ChangeSpec} {c : OpenClaim} (t1 : P.mayEnter = true) (t2 : P.liftsFinal = false) (t3 : P.make = some .cut) (t4 : P.stopsHeard = true) (t5 : laidOutB P = true) (t6 : mapsRowed P = true)
    (t7 : P.plainKeys = true) (h : rowFacts P f fn s c = true) : joinedFacts P f fn s c = true := by
  unfold rowFacts at h
  unfold joinedFacts
  rw [t1, t2, t3, t4, t5, t6, t7]
  simp only [Bool.and_true, Bool.and_assoc] at h ⊢
  exact h
theorem facts_here {f : FuncId} {fn : Func} {s : ChangeSpec} {c : OpenClaim} (h : rowFacts Tryd.prog f fn s c = true) : joinedFacts Tryd.prog f fn s c = true :=
  facts_of head_mayEnter head_final head_make head_heard head_laidOut head_mapsRowed head_plainKeys h
end Go.Proofs.YtippfkokgpdmdaaDoor
