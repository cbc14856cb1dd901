/-
  The closed facts of a row, those of the program alone apart: the words of the program's head are spelt as a list of signs first, for the kernel takes no long literal apart.
-/
import Derived.Test.YtgkobmmannkegaaRows
import Derived.Test.YtgkobmmannkegaaChecked
import Derived.WalkKit
import Derived.ProofKit
namespace Go.Proofs.Ytgkobmmannkegaa
open Go Go.RowKit
set_option linter.unusedVariables false

def headNums : List Nat := [
  104, 97, 114, 110, 101, 115, 115, 32, 99, 99, 48, 49, 55, 52, 97, 100, 53, 98, 102, 54, 54, 56, 51, 53, 56, 102, 54, 51, 98, 100, 48, 48, 102, 48, 97, 52, 56, 99, 56, 97,
  52, 101, 49, 55, 52, 51, 52, 54, 57, 97, 48, 53, 52, 98, 52, 52, 100, 97, 55, 100, 101, 56, 56, 54, 48, 100, 99, 54, 49, 57, 98, 50, 32, 99, 117, 116, 32, 97, 116, 32,
  115, 117, 110, 100, 105, 97, 108, 47, 115, 117, 110, 100, 105, 97, 108, 108, 97, 119, 50, 56, 46, 87, 97, 107, 101, 65, 115, 107, 115, 32, 115, 117, 110, 100, 105, 97, 108, 47, 115, 117,
  110, 100, 105, 97, 108, 108, 97, 119, 48, 56, 46, 80, 108, 97, 110, 84, 101, 108, 108, 115, 32, 115, 117, 110, 100, 105, 97, 108, 47, 115, 117, 110, 100, 105, 97, 108, 108, 97, 119, 48,
  56, 46, 80, 108, 97, 110, 65, 112, 97, 114, 116, 32, 115, 117, 110, 100, 105, 97, 108, 47, 115, 117, 110, 100, 105, 97, 108, 108, 97, 119, 50, 57, 46, 80, 97, 114, 107, 65, 115, 107,
  115, 32, 115, 117, 110, 100, 105, 97, 108, 47, 115, 117, 110, 100, 105, 97, 108, 108, 97, 119, 49, 51, 46, 80, 105, 110, 65, 115, 107, 115, 32, 115, 117, 110, 100, 105, 97, 108, 47, 115,
  117, 110, 100, 105, 97, 108, 108, 97, 119, 49, 52, 46, 69, 112, 111, 99, 104, 65, 115, 107, 115, 32, 115, 117, 110, 100, 105, 97, 108, 47, 115, 117, 110, 100, 105, 97, 108, 108, 97, 119,
  49, 51, 46, 80, 105, 110, 76, 101, 97, 118, 101, 115, 32, 115, 117, 110, 100, 105, 97, 108, 47, 115, 117, 110, 100, 105, 97, 108, 108, 97, 119, 51, 57, 46, 67, 108, 111, 99, 107, 84,
  119, 105, 99, 101, 32, 115, 117, 110, 100, 105, 97, 108, 47, 115, 117, 110, 100, 105, 97, 108, 108, 97, 119, 49, 49, 46, 84, 97, 115, 107, 83, 99, 114, 105, 112, 116, 115, 32, 115, 117,
  110, 100, 105, 97, 108, 47, 115, 117, 110, 100, 105, 97, 108, 108, 97, 119, 48, 54, 46, 67, 101, 108, 108, 115, 80, 108, 97, 121, 115, 32, 115, 117, 110, 100, 105, 97, 108, 47, 115, 117,
  110, 100, 105, 97, 108, 108, 97, 119, 48, 54, 46, 67, 101, 108, 108, 115, 78, 101, 119, 32, 115, 117, 110, 100, 105, 97, 108, 47, 115, 117, 110, 100, 105, 97, 108, 108, 97, 119, 48, 54,
  46, 67, 101, 108, 108, 115, 67, 111, 112, 121, 32, 115, 117, 110, 100, 105, 97, 108, 47, 115, 117, 110, 100, 105, 97, 108, 108, 97, 119, 51, 57, 46, 67, 108, 111, 99, 107, 84, 101, 108,
  108, 115, 32, 115, 117, 110, 100, 105, 97, 108, 47, 115, 117, 110, 100, 105, 97, 108, 108, 97, 119, 49, 53, 46, 76, 105, 109, 98, 111, 80, 108, 97, 121, 115, 32, 115, 117, 110, 100, 105,
  97, 108, 47, 115, 117, 110, 100, 105, 97, 108, 108, 97, 119, 49, 53, 46, 76, 105, 109, 98, 111, 79, 110, 99, 101, 32, 115, 117, 110, 100, 105, 97, 108, 47, 115, 117, 110, 100, 105, 97,
  108, 108, 97, 119, 49, 49, 46, 84, 97, 115, 107, 76, 101, 100, 103, 101, 114, 115, 32, 115, 117, 110, 100, 105, 97, 108, 47, 115, 117, 110, 100, 105, 97, 108, 108, 97, 119, 49, 49, 46,
  84, 97, 115, 107, 70, 108, 111, 119, 115, 32, 115, 117, 110, 100, 105, 97, 108, 47, 115, 117, 110, 100, 105, 97, 108, 108, 97, 119, 49, 48, 46, 66, 108, 97, 110, 107, 65, 108, 108, 32,
  115, 117, 110, 100, 105, 97, 108, 47, 115, 117, 110, 100, 105, 97, 108, 108, 97, 119, 49, 48, 46, 66, 108, 97, 110, 107, 70, 114, 101, 101, 32, 115, 117, 110, 100, 105, 97, 108, 47, 115,
  117, 110, 100, 105, 97, 108, 108, 97, 119, 49, 48, 46, 66, 108, 97, 110, 107, 77, 97, 107, 101, 115, 32, 115, 117, 110, 100, 105, 97, 108, 47, 115, 117, 110, 100, 105, 97, 108, 108, 97,
  119, 50, 56, 46, 87, 97, 107, 101, 74, 117, 115, 116, 32, 115, 117, 110, 100, 105, 97, 108, 47, 115, 117, 110, 100, 105, 97, 108, 108, 97, 119, 49, 49, 46, 84, 97, 115, 107, 83, 116,
  101, 112, 115, 32, 115, 117, 110, 100, 105, 97, 108, 47, 115, 117, 110, 100, 105, 97, 108, 108, 97, 119, 50, 57, 46, 80, 97, 114, 107, 87, 97, 105, 116, 115, 32, 115, 117, 110, 100, 105,
  97, 108, 47, 115, 117, 110, 100, 105, 97, 108, 108, 97, 119, 49, 51, 46, 80, 105, 110, 72, 111, 108, 100, 115, 32, 115, 117, 110, 100, 105, 97, 108, 47, 115, 117, 110, 100, 105, 97, 108,
  108, 97, 119, 49, 49, 46, 84, 97, 115, 107, 80, 108, 97, 121, 115, 32, 115, 117, 110, 100, 105, 97, 108, 47, 115, 117, 110, 100, 105, 97, 108, 108, 97, 119, 49, 52, 46, 69, 112, 111,
  99, 104, 71, 111, 101, 115, 32, 115, 117, 110, 100, 105, 97, 108, 47, 115, 117, 110, 100, 105, 97, 108, 108, 97, 119, 49, 50, 46, 80, 111, 111, 108, 80, 111, 112, 115, 32, 115, 117, 110,
  100, 105, 97, 108, 47, 115, 117, 110, 100, 105, 97, 108, 108, 97, 119, 49, 50, 46, 80, 111, 111, 108, 80, 117, 115, 104, 101, 115, 32, 115, 117, 110, 100, 105, 97, 108, 47, 115, 117, 110,
  100, 105, 97, 108, 108, 97, 119, 49, 50, 46, 80, 111, 111, 108, 83, 116, 97, 99, 107]
set_option maxRecDepth 100000 in
theorem head_lit : Try.prog.initOrder = String.ofList (headNums.map Char.ofNat) := by kernel_rfl
theorem head_list : Try.prog.initOrder.toList = headNums.map Char.ofNat := by rw [head_lit, String.toList_ofList]
def cutW : List Char := [Char.ofNat 99, Char.ofNat 117, Char.ofNat 116]
set_option maxRecDepth 100000 in
theorem head_words : ∃ rest, behindMainWord (wordsSigns Try.prog.initOrder.toList) = cutW :: rest := by
  rw [head_list]
  exact ⟨wordsSigns ((headNums.drop 77).map Char.ofNat), by kernel_rfl⟩
theorem head_later : Try.prog.laysLater = false := by kernel_rfl
theorem head_reflect : Try.prog.bearsReflect = false := by kernel_rfl
theorem head_door : Try.prog.doorFits [] = true := by kernel_rfl
theorem strip_cut (rest : List (List Char)) : stripLifts liftWords (cutW :: rest) = ([], cutW :: rest) := by
  have h : ∀ os : List String, (os.all fun o => cutW != o.toList) = true → stripLifts os (cutW :: rest) = ([], cutW :: rest) := by
    intro os
    induction os with
    | nil => intro _; rfl
    | cons o os ih =>
      intro ho
      simp only [List.all_cons, Bool.and_eq_true, bne_iff_ne] at ho
      simp only [stripLifts]
      rw [if_neg (by simpa using ho.1)]
      exact ih ho.2
  exact h _ (by kernel_rfl)
theorem cut_cut : cutW = "cut".toList := by kernel_rfl
theorem cut_not : (cutW == "gc".toList) = false ∧ (cutW == "spec".toList) = false ∧ (cutW == "carried".toList) = false ∧ (cutW == "finals".toList) = false := by
  refine ⟨?_, ?_, ?_, ?_⟩ <;> kernel_rfl
theorem lifts_of {P : Program} (h : ∃ rest, behindMainWord (wordsSigns P.initOrder.toList) = cutW :: rest) : P.headLifts = [] := by
  obtain ⟨rest, h⟩ := h
  unfold Program.headLifts
  rw [h, strip_cut]; simp
theorem mayEnter_of {P : Program} (h : ∃ rest, behindMainWord (wordsSigns P.initOrder.toList) = cutW :: rest) (h1 : P.laysLater = false) (h2 : P.bearsReflect = false) (h3 : P.doorFits [] = true) : P.mayEnter = true := by
  obtain ⟨rest, h⟩ := h
  unfold Program.mayEnter
  rw [h]
  simp only [strip_cut, cut_not, h1, h2, h3, ← cut_cut]
  simp
theorem final_of {P : Program} (h : ∃ rest, behindMainWord (wordsSigns P.initOrder.toList) = cutW :: rest) : P.liftsFinal = false := by
  have hl := lifts_of h
  obtain ⟨rest, h⟩ := h
  unfold Program.liftsFinal
  rw [hl, h]
  have := cut_not.2.2.1
  simp_all
theorem make_of {P : Program} (h : ∃ rest, behindMainWord (wordsSigns P.initOrder.toList) = cutW :: rest) : P.make = some .cut := by
  obtain ⟨rest, h⟩ := h
  unfold Program.make
  rw [h]
  simp only [cut_not, ← cut_cut]
  simp
theorem head_mayEnter : Try.prog.mayEnter = true := mayEnter_of head_words head_later head_reflect head_door
theorem head_final : Try.prog.liftsFinal = false := final_of head_words
theorem head_make : Try.prog.make = some .cut := make_of head_words
theorem head_heard : Try.prog.stopsHeard = true := by kernel_rfl
theorem head_laidOut : laidOutB Try.prog = true := by kernel_rfl
theorem head_mapsRowed : mapsRowed Try.prog = true := by kernel_rfl
theorem head_plainKeys : Try.prog.plainKeys = true := by kernel_rfl
/-- The closed facts of a row, without those that read the head. -/
def rowFacts (P : Program) (f : FuncId) (fn : Func) (s : ChangeSpec) (c : OpenClaim) : Bool :=
  c.wf (OpenSpec.ofChange s) && fn.params.all (P.readableRec ·) && namedTie P c.named s.vars && (c.stops == []) && (P.stops == []) && (c.knobs == []) && (P.stopKnobs == []) &&
  (c.inPlace == P.inPlace f) && (c.unfollowed == P.unfollowed f) && (c.recurses == P.recurses f) && (c.named == P.varsNamed f) &&
  (c.maps == (fn.params.toList ++ s.plain.varTypes P).any (P.mapsRec ·)) && (c.ifaces == (fn.params.toList ++ s.plain.varTypes P).any (P.ifacesRec ·)) && (c.mapsOut == P.mapsAmong fn.resultTypes.toList) &&
  (c.loops == (fn.params.toList ++ s.plain.varTypes P).any (P.loopsFrom ·)) && (c.wideKeys == (fn.params.toList ++ s.plain.varTypes P ++ fn.resultTypes.toList).any (P.wideKeysFrom ·)) &&
  s.vars.all (P.varReadable ·) && fn.resultTypes.all (fun t => P.readableRec t && decide (t < P.types.size)) && (c.ifacesOut == fn.resultTypes.toList.any (P.ifacesRec ·)) && (c.loopsOut == fn.resultTypes.toList.any (P.loopsFrom ·)) &&
  (c.plainKeys == true) && c.shortTexts.isNone && (c.lifted == false) && (some Make.cut == some c.make) && (c.kinds == (if c.domain.isEmpty then [] else fn.params.toList.map fun t => match P.underlying t with | some (.int k) => some k | _ => none)) && (c.pinned == c.pinnedBy) &&
  (c.veiled == (fn.params.toList ++ s.plain.varTypes P ++ fn.resultTypes.toList).any (P.veiledRec ·)) && c.veiledFits P fn.params.toList (fn.params.toList ++ s.plain.varTypes P ++ fn.resultTypes.toList)
theorem facts_of {P : Program} {f : FuncId} {fn : Func} {s : ChangeSpec} {c : OpenClaim} (t1 : P.mayEnter = true) (t2 : P.liftsFinal = false) (t3 : P.make = some .cut) (t4 : P.stopsHeard = true) (t5 : laidOutB P = true) (t6 : mapsRowed P = true)
    (t7 : P.plainKeys = true) (h : rowFacts P f fn s c = true) : joinedFacts P f fn s c = true := by
  unfold rowFacts at h
  unfold joinedFacts
  rw [t1, t2, t3, t4, t5, t6, t7]
  simp only [Bool.and_true, Bool.and_assoc] at h ⊢
  exact h
theorem facts_here {f : FuncId} {fn : Func} {s : ChangeSpec} {c : OpenClaim} (h : rowFacts Try.prog f fn s c = true) : joinedFacts Try.prog f fn s c = true :=
  facts_of head_mayEnter head_final head_make head_heard head_laidOut head_mapsRowed head_plainKeys h
end Go.Proofs.Ytgkobmmannkegaa
