/-
  No cell of these rows narrows 'for every input' (looked for: loops, veiled, ifaces, maps, wideKeys, modest, calm, conditions, laid).
  DERIVED. THE GIVEN ROWS OF THIS SEAT. 29 by the template 'for every input the law returns true; each argument reads behind the call as it read before'; 0 by the template 'total and deterministic' (their statements: YtgkobmmannkegaaTotals.lean).
  GIVEN WITH THE SEED: the statements are not yours to turn. If you find one false, say at which input.
  Laid BY PROGRAM, IN A SANDBOX (cutbox-rows.mjs): the forced cells as the released guide's own fill.sh prints them over the translation 2397e627171c7bd5… (all of the seat's roots in one cut). By AI agents, Wed Nov 11 2026. No macro, syntax, notation, axiom, sorry.
-/
import Derived.Test.YtgkobmmannkegaaChecked
import GoSem.Claim
import GoSem.ClaimJoined
import GoSem.ClaimMapViews
import Derived.JoinedTies
import Derived.KernelRfl
namespace Go.Proofs.Ytgkobmmannkegaa
/- THE CELL 'sum', in the pinned program and in every row, IS THE sha256 OF THE DUMP (.gsa) THAT YtgkobmmannkegaaProg.lean LOADS. Nothing in Lean hashes anything: it is a label: what it is worth is what the hold of that sum in a sandbox is worth. -/
noncomputable def Try.pinned : Pinned := { name := "ytgkobmmannkegaa", sum := "2397e627171c7bd5a484781284c07a44ce1c2b0ba1a7997d3b0445b94e844b15", checked := Try.checked }
namespace Rows
def none {H : Type} : Left H := { results := [], args := [] }

/-- 'sundiallaw28.WakeAsks': WHATEVER THE INPUT: true; the input reads as it did. -/
def wakeAsksSpec : ChangeSpec := { name := "wakeAsks", fn := fun _ => fun
  | [d1, d2, d3] => { results := [.lit (.bool true)], args := [d1, d2, d3] }
  | _ => none }
def wakeAsksRow : OpenClaim := { program := "ytgkobmmannkegaa", sum := "2397e627171c7bd5a484781284c07a44ce1c2b0ba1a7997d3b0445b94e844b15", func := "sundial/sundiallaw28.WakeAsks", spec := "wakeAsks", apart := false }
def WakeAsksSaid : Prop := wakeAsksRow.holds Try.pinned (OpenSpec.ofChange wakeAsksSpec)

/-- ITS FALSE NEIGHBOUR: 'it returns false'. Refute it at one input. -/
def wakeAsksWrong : ChangeSpec := { name := "wakeAsks", fn := fun _ => fun
  | [d1, d2, d3] => { results := [.lit (.bool false)], args := [d1, d2, d3] }
  | _ => none }
def WakeAsksWrongFalsely : Prop := wakeAsksRow.holds Try.pinned (OpenSpec.ofChange wakeAsksWrong)

/-- 'sundiallaw08.PlanTells': WHATEVER THE INPUT: true; the input reads as it did. -/
def planTellsSpec : ChangeSpec := { name := "planTells", fn := fun _ => fun
  | [d1, d2, d3] => { results := [.lit (.bool true)], args := [d1, d2, d3] }
  | _ => none }
def planTellsRow : OpenClaim := { program := "ytgkobmmannkegaa", sum := "2397e627171c7bd5a484781284c07a44ce1c2b0ba1a7997d3b0445b94e844b15", func := "sundial/sundiallaw08.PlanTells", spec := "planTells", apart := false }
def PlanTellsSaid : Prop := planTellsRow.holds Try.pinned (OpenSpec.ofChange planTellsSpec)

/-- ITS FALSE NEIGHBOUR: 'it returns false'. Refute it at one input. -/
def planTellsWrong : ChangeSpec := { name := "planTells", fn := fun _ => fun
  | [d1, d2, d3] => { results := [.lit (.bool false)], args := [d1, d2, d3] }
  | _ => none }
def PlanTellsWrongFalsely : Prop := planTellsRow.holds Try.pinned (OpenSpec.ofChange planTellsWrong)

/-- 'sundiallaw08.PlanApart': WHATEVER THE INPUT: true; the input reads as it did. -/
def planApartSpec : ChangeSpec := { name := "planApart", fn := fun _ => fun
  | [d] => { results := [.lit (.bool true)], args := [d] }
  | _ => none }
def planApartRow : OpenClaim := { program := "ytgkobmmannkegaa", sum := "2397e627171c7bd5a484781284c07a44ce1c2b0ba1a7997d3b0445b94e844b15", func := "sundial/sundiallaw08.PlanApart", spec := "planApart", apart := false }
def PlanApartSaid : Prop := planApartRow.holds Try.pinned (OpenSpec.ofChange planApartSpec)

/-- ITS FALSE NEIGHBOUR: 'it returns false'. Refute it at one input. -/
def planApartWrong : ChangeSpec := { name := "planApart", fn := fun _ => fun
  | [d] => { results := [.lit (.bool false)], args := [d] }
  | _ => none }
def PlanApartWrongFalsely : Prop := planApartRow.holds Try.pinned (OpenSpec.ofChange planApartWrong)

/-- 'sundiallaw29.ParkAsks': WHATEVER THE INPUT: true; the input reads as it did. -/
def parkAsksSpec : ChangeSpec := { name := "parkAsks", fn := fun _ => fun
  | [d1, d2, d3] => { results := [.lit (.bool true)], args := [d1, d2, d3] }
  | _ => none }
def parkAsksRow : OpenClaim := { program := "ytgkobmmannkegaa", sum := "2397e627171c7bd5a484781284c07a44ce1c2b0ba1a7997d3b0445b94e844b15", func := "sundial/sundiallaw29.ParkAsks", spec := "parkAsks", unfollowed := true, recurses := true, apart := false }
def ParkAsksSaid : Prop := parkAsksRow.holds Try.pinned (OpenSpec.ofChange parkAsksSpec)

/-- ITS FALSE NEIGHBOUR: 'it returns false'. Refute it at one input. -/
def parkAsksWrong : ChangeSpec := { name := "parkAsks", fn := fun _ => fun
  | [d1, d2, d3] => { results := [.lit (.bool false)], args := [d1, d2, d3] }
  | _ => none }
def ParkAsksWrongFalsely : Prop := parkAsksRow.holds Try.pinned (OpenSpec.ofChange parkAsksWrong)

/-- 'sundiallaw13.PinAsks': WHATEVER THE INPUT: true; the input reads as it did. -/
def pinAsksSpec : ChangeSpec := { name := "pinAsks", fn := fun _ => fun
  | [d1, d2, d3] => { results := [.lit (.bool true)], args := [d1, d2, d3] }
  | _ => none }
def pinAsksRow : OpenClaim := { program := "ytgkobmmannkegaa", sum := "2397e627171c7bd5a484781284c07a44ce1c2b0ba1a7997d3b0445b94e844b15", func := "sundial/sundiallaw13.PinAsks", spec := "pinAsks", apart := false }
def PinAsksSaid : Prop := pinAsksRow.holds Try.pinned (OpenSpec.ofChange pinAsksSpec)

/-- ITS FALSE NEIGHBOUR: 'it returns false'. Refute it at one input. -/
def pinAsksWrong : ChangeSpec := { name := "pinAsks", fn := fun _ => fun
  | [d1, d2, d3] => { results := [.lit (.bool false)], args := [d1, d2, d3] }
  | _ => none }
def PinAsksWrongFalsely : Prop := pinAsksRow.holds Try.pinned (OpenSpec.ofChange pinAsksWrong)

/-- 'sundiallaw14.EpochAsks': WHATEVER THE INPUT: true; the input reads as it did. -/
def epochAsksSpec : ChangeSpec := { name := "epochAsks", fn := fun _ => fun
  | [d1, d2] => { results := [.lit (.bool true)], args := [d1, d2] }
  | _ => none }
def epochAsksRow : OpenClaim := { program := "ytgkobmmannkegaa", sum := "2397e627171c7bd5a484781284c07a44ce1c2b0ba1a7997d3b0445b94e844b15", func := "sundial/sundiallaw14.EpochAsks", spec := "epochAsks", apart := false }
def EpochAsksSaid : Prop := epochAsksRow.holds Try.pinned (OpenSpec.ofChange epochAsksSpec)

/-- ITS FALSE NEIGHBOUR: 'it returns false'. Refute it at one input. -/
def epochAsksWrong : ChangeSpec := { name := "epochAsks", fn := fun _ => fun
  | [d1, d2] => { results := [.lit (.bool false)], args := [d1, d2] }
  | _ => none }
def EpochAsksWrongFalsely : Prop := epochAsksRow.holds Try.pinned (OpenSpec.ofChange epochAsksWrong)

/-- 'sundiallaw13.PinLeaves': WHATEVER THE INPUT: true; the input reads as it did. -/
def pinLeavesSpec : ChangeSpec := { name := "pinLeaves", fn := fun _ => fun
  | [d1, d2, d3] => { results := [.lit (.bool true)], args := [d1, d2, d3] }
  | _ => none }
def pinLeavesRow : OpenClaim := { program := "ytgkobmmannkegaa", sum := "2397e627171c7bd5a484781284c07a44ce1c2b0ba1a7997d3b0445b94e844b15", func := "sundial/sundiallaw13.PinLeaves", spec := "pinLeaves", apart := false }
def PinLeavesSaid : Prop := pinLeavesRow.holds Try.pinned (OpenSpec.ofChange pinLeavesSpec)

/-- ITS FALSE NEIGHBOUR: 'it returns false'. Refute it at one input. -/
def pinLeavesWrong : ChangeSpec := { name := "pinLeaves", fn := fun _ => fun
  | [d1, d2, d3] => { results := [.lit (.bool false)], args := [d1, d2, d3] }
  | _ => none }
def PinLeavesWrongFalsely : Prop := pinLeavesRow.holds Try.pinned (OpenSpec.ofChange pinLeavesWrong)

/-- 'sundiallaw39.ClockTwice': WHATEVER THE INPUT: true; the input reads as it did. -/
def clockTwiceSpec : ChangeSpec := { name := "clockTwice", fn := fun _ => fun
  | [d1, d2, d3] => { results := [.lit (.bool true)], args := [d1, d2, d3] }
  | _ => none }
def clockTwiceRow : OpenClaim := { program := "ytgkobmmannkegaa", sum := "2397e627171c7bd5a484781284c07a44ce1c2b0ba1a7997d3b0445b94e844b15", func := "sundial/sundiallaw39.ClockTwice", spec := "clockTwice", unfollowed := true, recurses := true, apart := false }
def ClockTwiceSaid : Prop := clockTwiceRow.holds Try.pinned (OpenSpec.ofChange clockTwiceSpec)

/-- ITS FALSE NEIGHBOUR: 'it returns false'. Refute it at one input. -/
def clockTwiceWrong : ChangeSpec := { name := "clockTwice", fn := fun _ => fun
  | [d1, d2, d3] => { results := [.lit (.bool false)], args := [d1, d2, d3] }
  | _ => none }
def ClockTwiceWrongFalsely : Prop := clockTwiceRow.holds Try.pinned (OpenSpec.ofChange clockTwiceWrong)

/-- 'sundiallaw11.TaskScripts': WHATEVER THE INPUT: true; the input reads as it did. -/
def taskScriptsSpec : ChangeSpec := { name := "taskScripts", fn := fun _ => fun
  | [d1, d2] => { results := [.lit (.bool true)], args := [d1, d2] }
  | _ => none }
def taskScriptsRow : OpenClaim := { program := "ytgkobmmannkegaa", sum := "2397e627171c7bd5a484781284c07a44ce1c2b0ba1a7997d3b0445b94e844b15", func := "sundial/sundiallaw11.TaskScripts", spec := "taskScripts", unfollowed := true, recurses := true, apart := false }
def TaskScriptsSaid : Prop := taskScriptsRow.holds Try.pinned (OpenSpec.ofChange taskScriptsSpec)

/-- ITS FALSE NEIGHBOUR: 'it returns false'. Refute it at one input. -/
def taskScriptsWrong : ChangeSpec := { name := "taskScripts", fn := fun _ => fun
  | [d1, d2] => { results := [.lit (.bool false)], args := [d1, d2] }
  | _ => none }
def TaskScriptsWrongFalsely : Prop := taskScriptsRow.holds Try.pinned (OpenSpec.ofChange taskScriptsWrong)

/-- 'sundiallaw06.CellsPlays': WHATEVER THE INPUT: true; the input reads as it did. -/
def cellsPlaysSpec : ChangeSpec := { name := "cellsPlays", fn := fun _ => fun
  | [d1, d2] => { results := [.lit (.bool true)], args := [d1, d2] }
  | _ => none }
def cellsPlaysRow : OpenClaim := { program := "ytgkobmmannkegaa", sum := "2397e627171c7bd5a484781284c07a44ce1c2b0ba1a7997d3b0445b94e844b15", func := "sundial/sundiallaw06.CellsPlays", spec := "cellsPlays", unfollowed := true, recurses := true, apart := false }
def CellsPlaysSaid : Prop := cellsPlaysRow.holds Try.pinned (OpenSpec.ofChange cellsPlaysSpec)

/-- ITS FALSE NEIGHBOUR: 'it returns false'. Refute it at one input. -/
def cellsPlaysWrong : ChangeSpec := { name := "cellsPlays", fn := fun _ => fun
  | [d1, d2] => { results := [.lit (.bool false)], args := [d1, d2] }
  | _ => none }
def CellsPlaysWrongFalsely : Prop := cellsPlaysRow.holds Try.pinned (OpenSpec.ofChange cellsPlaysWrong)

/-- 'sundiallaw06.CellsNew': WHATEVER THE INPUT: true; the input reads as it did. -/
def cellsNewSpec : ChangeSpec := { name := "cellsNew", fn := fun _ => fun
  | [d1, d2] => { results := [.lit (.bool true)], args := [d1, d2] }
  | _ => none }
def cellsNewRow : OpenClaim := { program := "ytgkobmmannkegaa", sum := "2397e627171c7bd5a484781284c07a44ce1c2b0ba1a7997d3b0445b94e844b15", func := "sundial/sundiallaw06.CellsNew", spec := "cellsNew", unfollowed := true, recurses := true, apart := false }
def CellsNewSaid : Prop := cellsNewRow.holds Try.pinned (OpenSpec.ofChange cellsNewSpec)

/-- ITS FALSE NEIGHBOUR: 'it returns false'. Refute it at one input. -/
def cellsNewWrong : ChangeSpec := { name := "cellsNew", fn := fun _ => fun
  | [d1, d2] => { results := [.lit (.bool false)], args := [d1, d2] }
  | _ => none }
def CellsNewWrongFalsely : Prop := cellsNewRow.holds Try.pinned (OpenSpec.ofChange cellsNewWrong)

/-- 'sundiallaw06.CellsCopy': WHATEVER THE INPUT: true; the input reads as it did. -/
def cellsCopySpec : ChangeSpec := { name := "cellsCopy", fn := fun _ => fun
  | [d1, d2, d3] => { results := [.lit (.bool true)], args := [d1, d2, d3] }
  | _ => none }
def cellsCopyRow : OpenClaim := { program := "ytgkobmmannkegaa", sum := "2397e627171c7bd5a484781284c07a44ce1c2b0ba1a7997d3b0445b94e844b15", func := "sundial/sundiallaw06.CellsCopy", spec := "cellsCopy", unfollowed := true, recurses := true, apart := false }
def CellsCopySaid : Prop := cellsCopyRow.holds Try.pinned (OpenSpec.ofChange cellsCopySpec)

/-- ITS FALSE NEIGHBOUR: 'it returns false'. Refute it at one input. -/
def cellsCopyWrong : ChangeSpec := { name := "cellsCopy", fn := fun _ => fun
  | [d1, d2, d3] => { results := [.lit (.bool false)], args := [d1, d2, d3] }
  | _ => none }
def CellsCopyWrongFalsely : Prop := cellsCopyRow.holds Try.pinned (OpenSpec.ofChange cellsCopyWrong)

/-- 'sundiallaw39.ClockTells': WHATEVER THE INPUT: true; the input reads as it did. -/
def clockTellsSpec : ChangeSpec := { name := "clockTells", fn := fun _ => fun
  | [d1, d2, d3] => { results := [.lit (.bool true)], args := [d1, d2, d3] }
  | _ => none }
def clockTellsRow : OpenClaim := { program := "ytgkobmmannkegaa", sum := "2397e627171c7bd5a484781284c07a44ce1c2b0ba1a7997d3b0445b94e844b15", func := "sundial/sundiallaw39.ClockTells", spec := "clockTells", unfollowed := true, recurses := true, apart := false }
def ClockTellsSaid : Prop := clockTellsRow.holds Try.pinned (OpenSpec.ofChange clockTellsSpec)

/-- ITS FALSE NEIGHBOUR: 'it returns false'. Refute it at one input. -/
def clockTellsWrong : ChangeSpec := { name := "clockTells", fn := fun _ => fun
  | [d1, d2, d3] => { results := [.lit (.bool false)], args := [d1, d2, d3] }
  | _ => none }
def ClockTellsWrongFalsely : Prop := clockTellsRow.holds Try.pinned (OpenSpec.ofChange clockTellsWrong)

/-- 'sundiallaw15.LimboPlays': WHATEVER THE INPUT: true; the input reads as it did. -/
def limboPlaysSpec : ChangeSpec := { name := "limboPlays", fn := fun _ => fun
  | [d] => { results := [.lit (.bool true)], args := [d] }
  | _ => none }
def limboPlaysRow : OpenClaim := { program := "ytgkobmmannkegaa", sum := "2397e627171c7bd5a484781284c07a44ce1c2b0ba1a7997d3b0445b94e844b15", func := "sundial/sundiallaw15.LimboPlays", spec := "limboPlays", apart := false }
def LimboPlaysSaid : Prop := limboPlaysRow.holds Try.pinned (OpenSpec.ofChange limboPlaysSpec)

/-- ITS FALSE NEIGHBOUR: 'it returns false'. Refute it at one input. -/
def limboPlaysWrong : ChangeSpec := { name := "limboPlays", fn := fun _ => fun
  | [d] => { results := [.lit (.bool false)], args := [d] }
  | _ => none }
def LimboPlaysWrongFalsely : Prop := limboPlaysRow.holds Try.pinned (OpenSpec.ofChange limboPlaysWrong)

/-- 'sundiallaw15.LimboOnce': WHATEVER THE INPUT: true; the input reads as it did. -/
def limboOnceSpec : ChangeSpec := { name := "limboOnce", fn := fun _ => fun
  | [d1, d2] => { results := [.lit (.bool true)], args := [d1, d2] }
  | _ => none }
def limboOnceRow : OpenClaim := { program := "ytgkobmmannkegaa", sum := "2397e627171c7bd5a484781284c07a44ce1c2b0ba1a7997d3b0445b94e844b15", func := "sundial/sundiallaw15.LimboOnce", spec := "limboOnce", apart := false }
def LimboOnceSaid : Prop := limboOnceRow.holds Try.pinned (OpenSpec.ofChange limboOnceSpec)

/-- ITS FALSE NEIGHBOUR: 'it returns false'. Refute it at one input. -/
def limboOnceWrong : ChangeSpec := { name := "limboOnce", fn := fun _ => fun
  | [d1, d2] => { results := [.lit (.bool false)], args := [d1, d2] }
  | _ => none }
def LimboOnceWrongFalsely : Prop := limboOnceRow.holds Try.pinned (OpenSpec.ofChange limboOnceWrong)

/-- 'sundiallaw11.TaskLedgers': WHATEVER THE INPUT: true; the input reads as it did. -/
def taskLedgersSpec : ChangeSpec := { name := "taskLedgers", fn := fun _ => fun
  | [d] => { results := [.lit (.bool true)], args := [d] }
  | _ => none }
def taskLedgersRow : OpenClaim := { program := "ytgkobmmannkegaa", sum := "2397e627171c7bd5a484781284c07a44ce1c2b0ba1a7997d3b0445b94e844b15", func := "sundial/sundiallaw11.TaskLedgers", spec := "taskLedgers", unfollowed := true, recurses := true, apart := false }
def TaskLedgersSaid : Prop := taskLedgersRow.holds Try.pinned (OpenSpec.ofChange taskLedgersSpec)

/-- ITS FALSE NEIGHBOUR: 'it returns false'. Refute it at one input. -/
def taskLedgersWrong : ChangeSpec := { name := "taskLedgers", fn := fun _ => fun
  | [d] => { results := [.lit (.bool false)], args := [d] }
  | _ => none }
def TaskLedgersWrongFalsely : Prop := taskLedgersRow.holds Try.pinned (OpenSpec.ofChange taskLedgersWrong)

/-- 'sundiallaw11.TaskFlows': WHATEVER THE INPUT: true; the input reads as it did. -/
def taskFlowsSpec : ChangeSpec := { name := "taskFlows", fn := fun _ => fun
  | [d1, d2, d3] => { results := [.lit (.bool true)], args := [d1, d2, d3] }
  | _ => none }
def taskFlowsRow : OpenClaim := { program := "ytgkobmmannkegaa", sum := "2397e627171c7bd5a484781284c07a44ce1c2b0ba1a7997d3b0445b94e844b15", func := "sundial/sundiallaw11.TaskFlows", spec := "taskFlows", unfollowed := true, recurses := true, apart := false }
def TaskFlowsSaid : Prop := taskFlowsRow.holds Try.pinned (OpenSpec.ofChange taskFlowsSpec)

/-- ITS FALSE NEIGHBOUR: 'it returns false'. Refute it at one input. -/
def taskFlowsWrong : ChangeSpec := { name := "taskFlows", fn := fun _ => fun
  | [d1, d2, d3] => { results := [.lit (.bool false)], args := [d1, d2, d3] }
  | _ => none }
def TaskFlowsWrongFalsely : Prop := taskFlowsRow.holds Try.pinned (OpenSpec.ofChange taskFlowsWrong)

/-- 'sundiallaw10.BlankAll': WHATEVER THE INPUT: true; the input reads as it did. -/
def blankAllSpec : ChangeSpec := { name := "blankAll", fn := fun _ => fun
  | [d] => { results := [.lit (.bool true)], args := [d] }
  | _ => none }
def blankAllRow : OpenClaim := { program := "ytgkobmmannkegaa", sum := "2397e627171c7bd5a484781284c07a44ce1c2b0ba1a7997d3b0445b94e844b15", func := "sundial/sundiallaw10.BlankAll", spec := "blankAll", unfollowed := true, recurses := true, apart := false }
def BlankAllSaid : Prop := blankAllRow.holds Try.pinned (OpenSpec.ofChange blankAllSpec)

/-- ITS FALSE NEIGHBOUR: 'it returns false'. Refute it at one input. -/
def blankAllWrong : ChangeSpec := { name := "blankAll", fn := fun _ => fun
  | [d] => { results := [.lit (.bool false)], args := [d] }
  | _ => none }
def BlankAllWrongFalsely : Prop := blankAllRow.holds Try.pinned (OpenSpec.ofChange blankAllWrong)

/-- 'sundiallaw10.BlankFree': WHATEVER THE INPUT: true; the input reads as it did. -/
def blankFreeSpec : ChangeSpec := { name := "blankFree", fn := fun _ => fun
  | [d1, d2] => { results := [.lit (.bool true)], args := [d1, d2] }
  | _ => none }
def blankFreeRow : OpenClaim := { program := "ytgkobmmannkegaa", sum := "2397e627171c7bd5a484781284c07a44ce1c2b0ba1a7997d3b0445b94e844b15", func := "sundial/sundiallaw10.BlankFree", spec := "blankFree", unfollowed := true, recurses := true, apart := false }
def BlankFreeSaid : Prop := blankFreeRow.holds Try.pinned (OpenSpec.ofChange blankFreeSpec)

/-- ITS FALSE NEIGHBOUR: 'it returns false'. Refute it at one input. -/
def blankFreeWrong : ChangeSpec := { name := "blankFree", fn := fun _ => fun
  | [d1, d2] => { results := [.lit (.bool false)], args := [d1, d2] }
  | _ => none }
def BlankFreeWrongFalsely : Prop := blankFreeRow.holds Try.pinned (OpenSpec.ofChange blankFreeWrong)

/-- 'sundiallaw10.BlankMakes': WHATEVER THE INPUT: true; the input reads as it did. -/
def blankMakesSpec : ChangeSpec := { name := "blankMakes", fn := fun _ => fun
  | [d] => { results := [.lit (.bool true)], args := [d] }
  | _ => none }
def blankMakesRow : OpenClaim := { program := "ytgkobmmannkegaa", sum := "2397e627171c7bd5a484781284c07a44ce1c2b0ba1a7997d3b0445b94e844b15", func := "sundial/sundiallaw10.BlankMakes", spec := "blankMakes", unfollowed := true, recurses := true, apart := false }
def BlankMakesSaid : Prop := blankMakesRow.holds Try.pinned (OpenSpec.ofChange blankMakesSpec)

/-- ITS FALSE NEIGHBOUR: 'it returns false'. Refute it at one input. -/
def blankMakesWrong : ChangeSpec := { name := "blankMakes", fn := fun _ => fun
  | [d] => { results := [.lit (.bool false)], args := [d] }
  | _ => none }
def BlankMakesWrongFalsely : Prop := blankMakesRow.holds Try.pinned (OpenSpec.ofChange blankMakesWrong)

/-- 'sundiallaw28.WakeJust': WHATEVER THE INPUT: true; the input reads as it did. -/
def wakeJustSpec : ChangeSpec := { name := "wakeJust", fn := fun _ => fun
  | [d1, d2, d3] => { results := [.lit (.bool true)], args := [d1, d2, d3] }
  | _ => none }
def wakeJustRow : OpenClaim := { program := "ytgkobmmannkegaa", sum := "2397e627171c7bd5a484781284c07a44ce1c2b0ba1a7997d3b0445b94e844b15", func := "sundial/sundiallaw28.WakeJust", spec := "wakeJust", unfollowed := true, recurses := true, apart := false }
def WakeJustSaid : Prop := wakeJustRow.holds Try.pinned (OpenSpec.ofChange wakeJustSpec)

/-- ITS FALSE NEIGHBOUR: 'it returns false'. Refute it at one input. -/
def wakeJustWrong : ChangeSpec := { name := "wakeJust", fn := fun _ => fun
  | [d1, d2, d3] => { results := [.lit (.bool false)], args := [d1, d2, d3] }
  | _ => none }
def WakeJustWrongFalsely : Prop := wakeJustRow.holds Try.pinned (OpenSpec.ofChange wakeJustWrong)

/-- 'sundiallaw11.TaskSteps': WHATEVER THE INPUT: true; the input reads as it did. -/
def taskStepsSpec : ChangeSpec := { name := "taskSteps", fn := fun _ => fun
  | [d1, d2, d3] => { results := [.lit (.bool true)], args := [d1, d2, d3] }
  | _ => none }
def taskStepsRow : OpenClaim := { program := "ytgkobmmannkegaa", sum := "2397e627171c7bd5a484781284c07a44ce1c2b0ba1a7997d3b0445b94e844b15", func := "sundial/sundiallaw11.TaskSteps", spec := "taskSteps", unfollowed := true, recurses := true, apart := false }
def TaskStepsSaid : Prop := taskStepsRow.holds Try.pinned (OpenSpec.ofChange taskStepsSpec)

/-- ITS FALSE NEIGHBOUR: 'it returns false'. Refute it at one input. -/
def taskStepsWrong : ChangeSpec := { name := "taskSteps", fn := fun _ => fun
  | [d1, d2, d3] => { results := [.lit (.bool false)], args := [d1, d2, d3] }
  | _ => none }
def TaskStepsWrongFalsely : Prop := taskStepsRow.holds Try.pinned (OpenSpec.ofChange taskStepsWrong)

/-- 'sundiallaw29.ParkWaits': WHATEVER THE INPUT: true; the input reads as it did. -/
def parkWaitsSpec : ChangeSpec := { name := "parkWaits", fn := fun _ => fun
  | [d1, d2, d3] => { results := [.lit (.bool true)], args := [d1, d2, d3] }
  | _ => none }
def parkWaitsRow : OpenClaim := { program := "ytgkobmmannkegaa", sum := "2397e627171c7bd5a484781284c07a44ce1c2b0ba1a7997d3b0445b94e844b15", func := "sundial/sundiallaw29.ParkWaits", spec := "parkWaits", unfollowed := true, recurses := true, apart := false }
def ParkWaitsSaid : Prop := parkWaitsRow.holds Try.pinned (OpenSpec.ofChange parkWaitsSpec)

/-- ITS FALSE NEIGHBOUR: 'it returns false'. Refute it at one input. -/
def parkWaitsWrong : ChangeSpec := { name := "parkWaits", fn := fun _ => fun
  | [d1, d2, d3] => { results := [.lit (.bool false)], args := [d1, d2, d3] }
  | _ => none }
def ParkWaitsWrongFalsely : Prop := parkWaitsRow.holds Try.pinned (OpenSpec.ofChange parkWaitsWrong)

/-- 'sundiallaw13.PinHolds': WHATEVER THE INPUT: true; the input reads as it did. -/
def pinHoldsSpec : ChangeSpec := { name := "pinHolds", fn := fun _ => fun
  | [d1, d2, d3] => { results := [.lit (.bool true)], args := [d1, d2, d3] }
  | _ => none }
def pinHoldsRow : OpenClaim := { program := "ytgkobmmannkegaa", sum := "2397e627171c7bd5a484781284c07a44ce1c2b0ba1a7997d3b0445b94e844b15", func := "sundial/sundiallaw13.PinHolds", spec := "pinHolds", unfollowed := true, recurses := true, apart := false }
def PinHoldsSaid : Prop := pinHoldsRow.holds Try.pinned (OpenSpec.ofChange pinHoldsSpec)

/-- ITS FALSE NEIGHBOUR: 'it returns false'. Refute it at one input. -/
def pinHoldsWrong : ChangeSpec := { name := "pinHolds", fn := fun _ => fun
  | [d1, d2, d3] => { results := [.lit (.bool false)], args := [d1, d2, d3] }
  | _ => none }
def PinHoldsWrongFalsely : Prop := pinHoldsRow.holds Try.pinned (OpenSpec.ofChange pinHoldsWrong)

/-- 'sundiallaw11.TaskPlays': WHATEVER THE INPUT: true; the input reads as it did. -/
def taskPlaysSpec : ChangeSpec := { name := "taskPlays", fn := fun _ => fun
  | [d1, d2, d3] => { results := [.lit (.bool true)], args := [d1, d2, d3] }
  | _ => none }
def taskPlaysRow : OpenClaim := { program := "ytgkobmmannkegaa", sum := "2397e627171c7bd5a484781284c07a44ce1c2b0ba1a7997d3b0445b94e844b15", func := "sundial/sundiallaw11.TaskPlays", spec := "taskPlays", unfollowed := true, recurses := true, apart := false }
def TaskPlaysSaid : Prop := taskPlaysRow.holds Try.pinned (OpenSpec.ofChange taskPlaysSpec)

/-- ITS FALSE NEIGHBOUR: 'it returns false'. Refute it at one input. -/
def taskPlaysWrong : ChangeSpec := { name := "taskPlays", fn := fun _ => fun
  | [d1, d2, d3] => { results := [.lit (.bool false)], args := [d1, d2, d3] }
  | _ => none }
def TaskPlaysWrongFalsely : Prop := taskPlaysRow.holds Try.pinned (OpenSpec.ofChange taskPlaysWrong)

/-- 'sundiallaw14.EpochGoes': WHATEVER THE INPUT: true; the input reads as it did. -/
def epochGoesSpec : ChangeSpec := { name := "epochGoes", fn := fun _ => fun
  | [d1, d2, d3] => { results := [.lit (.bool true)], args := [d1, d2, d3] }
  | _ => none }
def epochGoesRow : OpenClaim := { program := "ytgkobmmannkegaa", sum := "2397e627171c7bd5a484781284c07a44ce1c2b0ba1a7997d3b0445b94e844b15", func := "sundial/sundiallaw14.EpochGoes", spec := "epochGoes", unfollowed := true, recurses := true, apart := false }
def EpochGoesSaid : Prop := epochGoesRow.holds Try.pinned (OpenSpec.ofChange epochGoesSpec)

/-- ITS FALSE NEIGHBOUR: 'it returns false'. Refute it at one input. -/
def epochGoesWrong : ChangeSpec := { name := "epochGoes", fn := fun _ => fun
  | [d1, d2, d3] => { results := [.lit (.bool false)], args := [d1, d2, d3] }
  | _ => none }
def EpochGoesWrongFalsely : Prop := epochGoesRow.holds Try.pinned (OpenSpec.ofChange epochGoesWrong)

/-- 'sundiallaw12.PoolPops': WHATEVER THE INPUT: true; the input reads as it did. -/
def poolPopsSpec : ChangeSpec := { name := "poolPops", fn := fun _ => fun
  | [d1, d2] => { results := [.lit (.bool true)], args := [d1, d2] }
  | _ => none }
def poolPopsRow : OpenClaim := { program := "ytgkobmmannkegaa", sum := "2397e627171c7bd5a484781284c07a44ce1c2b0ba1a7997d3b0445b94e844b15", func := "sundial/sundiallaw12.PoolPops", spec := "poolPops", unfollowed := true, recurses := true, apart := false }
def PoolPopsSaid : Prop := poolPopsRow.holds Try.pinned (OpenSpec.ofChange poolPopsSpec)

/-- ITS FALSE NEIGHBOUR: 'it returns false'. Refute it at one input. -/
def poolPopsWrong : ChangeSpec := { name := "poolPops", fn := fun _ => fun
  | [d1, d2] => { results := [.lit (.bool false)], args := [d1, d2] }
  | _ => none }
def PoolPopsWrongFalsely : Prop := poolPopsRow.holds Try.pinned (OpenSpec.ofChange poolPopsWrong)

/-- 'sundiallaw12.PoolPushes': WHATEVER THE INPUT: true; the input reads as it did. -/
def poolPushesSpec : ChangeSpec := { name := "poolPushes", fn := fun _ => fun
  | [d1, d2, d3] => { results := [.lit (.bool true)], args := [d1, d2, d3] }
  | _ => none }
def poolPushesRow : OpenClaim := { program := "ytgkobmmannkegaa", sum := "2397e627171c7bd5a484781284c07a44ce1c2b0ba1a7997d3b0445b94e844b15", func := "sundial/sundiallaw12.PoolPushes", spec := "poolPushes", unfollowed := true, recurses := true, apart := false }
def PoolPushesSaid : Prop := poolPushesRow.holds Try.pinned (OpenSpec.ofChange poolPushesSpec)

/-- ITS FALSE NEIGHBOUR: 'it returns false'. Refute it at one input. -/
def poolPushesWrong : ChangeSpec := { name := "poolPushes", fn := fun _ => fun
  | [d1, d2, d3] => { results := [.lit (.bool false)], args := [d1, d2, d3] }
  | _ => none }
def PoolPushesWrongFalsely : Prop := poolPushesRow.holds Try.pinned (OpenSpec.ofChange poolPushesWrong)

/-- 'sundiallaw12.PoolStack': WHATEVER THE INPUT: true; the input reads as it did. -/
def poolStackSpec : ChangeSpec := { name := "poolStack", fn := fun _ => fun
  | [d1, d2] => { results := [.lit (.bool true)], args := [d1, d2] }
  | _ => none }
def poolStackRow : OpenClaim := { program := "ytgkobmmannkegaa", sum := "2397e627171c7bd5a484781284c07a44ce1c2b0ba1a7997d3b0445b94e844b15", func := "sundial/sundiallaw12.PoolStack", spec := "poolStack", unfollowed := true, recurses := true, apart := false }
def PoolStackSaid : Prop := poolStackRow.holds Try.pinned (OpenSpec.ofChange poolStackSpec)

/-- ITS FALSE NEIGHBOUR: 'it returns false'. Refute it at one input. -/
def poolStackWrong : ChangeSpec := { name := "poolStack", fn := fun _ => fun
  | [d1, d2] => { results := [.lit (.bool false)], args := [d1, d2] }
  | _ => none }
def PoolStackWrongFalsely : Prop := poolStackRow.holds Try.pinned (OpenSpec.ofChange poolStackWrong)

/- THE SECOND FORM. 'bulk': how many values and letters a reading holds, each counted each time it is reached (what is shared counts as often as it is met; a slice's spare places count too). A statement '..UptoSaid' is the law's where the arguments, and the package variables that the reading takes, are together of bulk at most 1048576: NARROWER than '..Said'. Prove '..Said' where nothing that the law and all that it calls make is longer than what came in: it says more and counts as full. Else prove '..UptoSaid'. A law counts once. -/
mutual
def uptoBulk {H : Type} : DataW H → Nat
  | .lit (.string bytes) => bytes.length + 1
  | .lit _ => 1
  | .nil => 1
  | .ptr d => uptoBulk d + 1
  | .slice elems spare => uptoBulkAll elems + uptoBulkAll spare + 1
  | .agg parts => uptoBulkAll parts + 1
  | .iface _ d => uptoBulk d + 1
  | .map entries => uptoBulkEntries entries + 1
  | .held _ => 1
def uptoBulkAll {H : Type} : List (DataW H) → Nat
  | [] => 0
  | d :: r => uptoBulk d + uptoBulkAll r
def uptoBulkEntries {H : Type} : List (Lit × DataW H) → Nat
  | [] => 0
  | x :: r => uptoBulkEntry x + uptoBulkEntries r
def uptoBulkEntry {H : Type} : Lit × DataW H → Nat
  | (.string bytes, d) => bytes.length + uptoBulk d + 1
  | (_, d) => uptoBulk d + 1
 end
def uptoSmall : (H : Type) → List (DataW H) → Bool := fun _ ds => decide (uptoBulkAll ds ≤ 1048576)
def OpenSpec.upto (s : _root_.Go.ChangeSpec) : _root_.Go.OpenSpec := { _root_.Go.OpenSpec.ofChange s with cond := some uptoSmall }

/-- 'sundiallaw28.WakeAsks', WHERE WHAT IT READS IS OF BULK AT MOST 1048576: true; the input reads as it did. -/
def wakeAsksUptoRow : OpenClaim := { program := "ytgkobmmannkegaa", sum := "2397e627171c7bd5a484781284c07a44ce1c2b0ba1a7997d3b0445b94e844b15", func := "sundial/sundiallaw28.WakeAsks", spec := "wakeAsks", apart := false, narrowed := true }
def WakeAsksUptoSaid : Prop := wakeAsksUptoRow.holds Try.pinned (OpenSpec.upto wakeAsksSpec)

/-- 'sundiallaw08.PlanTells', WHERE WHAT IT READS IS OF BULK AT MOST 1048576: true; the input reads as it did. -/
def planTellsUptoRow : OpenClaim := { program := "ytgkobmmannkegaa", sum := "2397e627171c7bd5a484781284c07a44ce1c2b0ba1a7997d3b0445b94e844b15", func := "sundial/sundiallaw08.PlanTells", spec := "planTells", apart := false, narrowed := true }
def PlanTellsUptoSaid : Prop := planTellsUptoRow.holds Try.pinned (OpenSpec.upto planTellsSpec)

/-- 'sundiallaw08.PlanApart', WHERE WHAT IT READS IS OF BULK AT MOST 1048576: true; the input reads as it did. -/
def planApartUptoRow : OpenClaim := { program := "ytgkobmmannkegaa", sum := "2397e627171c7bd5a484781284c07a44ce1c2b0ba1a7997d3b0445b94e844b15", func := "sundial/sundiallaw08.PlanApart", spec := "planApart", apart := false, narrowed := true }
def PlanApartUptoSaid : Prop := planApartUptoRow.holds Try.pinned (OpenSpec.upto planApartSpec)

/-- 'sundiallaw29.ParkAsks', WHERE WHAT IT READS IS OF BULK AT MOST 1048576: true; the input reads as it did. -/
def parkAsksUptoRow : OpenClaim := { program := "ytgkobmmannkegaa", sum := "2397e627171c7bd5a484781284c07a44ce1c2b0ba1a7997d3b0445b94e844b15", func := "sundial/sundiallaw29.ParkAsks", spec := "parkAsks", unfollowed := true, recurses := true, apart := false, narrowed := true }
def ParkAsksUptoSaid : Prop := parkAsksUptoRow.holds Try.pinned (OpenSpec.upto parkAsksSpec)

/-- 'sundiallaw13.PinAsks', WHERE WHAT IT READS IS OF BULK AT MOST 1048576: true; the input reads as it did. -/
def pinAsksUptoRow : OpenClaim := { program := "ytgkobmmannkegaa", sum := "2397e627171c7bd5a484781284c07a44ce1c2b0ba1a7997d3b0445b94e844b15", func := "sundial/sundiallaw13.PinAsks", spec := "pinAsks", apart := false, narrowed := true }
def PinAsksUptoSaid : Prop := pinAsksUptoRow.holds Try.pinned (OpenSpec.upto pinAsksSpec)

/-- 'sundiallaw14.EpochAsks', WHERE WHAT IT READS IS OF BULK AT MOST 1048576: true; the input reads as it did. -/
def epochAsksUptoRow : OpenClaim := { program := "ytgkobmmannkegaa", sum := "2397e627171c7bd5a484781284c07a44ce1c2b0ba1a7997d3b0445b94e844b15", func := "sundial/sundiallaw14.EpochAsks", spec := "epochAsks", apart := false, narrowed := true }
def EpochAsksUptoSaid : Prop := epochAsksUptoRow.holds Try.pinned (OpenSpec.upto epochAsksSpec)

/-- 'sundiallaw13.PinLeaves', WHERE WHAT IT READS IS OF BULK AT MOST 1048576: true; the input reads as it did. -/
def pinLeavesUptoRow : OpenClaim := { program := "ytgkobmmannkegaa", sum := "2397e627171c7bd5a484781284c07a44ce1c2b0ba1a7997d3b0445b94e844b15", func := "sundial/sundiallaw13.PinLeaves", spec := "pinLeaves", apart := false, narrowed := true }
def PinLeavesUptoSaid : Prop := pinLeavesUptoRow.holds Try.pinned (OpenSpec.upto pinLeavesSpec)

/-- 'sundiallaw39.ClockTwice', WHERE WHAT IT READS IS OF BULK AT MOST 1048576: true; the input reads as it did. -/
def clockTwiceUptoRow : OpenClaim := { program := "ytgkobmmannkegaa", sum := "2397e627171c7bd5a484781284c07a44ce1c2b0ba1a7997d3b0445b94e844b15", func := "sundial/sundiallaw39.ClockTwice", spec := "clockTwice", unfollowed := true, recurses := true, apart := false, narrowed := true }
def ClockTwiceUptoSaid : Prop := clockTwiceUptoRow.holds Try.pinned (OpenSpec.upto clockTwiceSpec)

/-- 'sundiallaw11.TaskScripts', WHERE WHAT IT READS IS OF BULK AT MOST 1048576: true; the input reads as it did. -/
def taskScriptsUptoRow : OpenClaim := { program := "ytgkobmmannkegaa", sum := "2397e627171c7bd5a484781284c07a44ce1c2b0ba1a7997d3b0445b94e844b15", func := "sundial/sundiallaw11.TaskScripts", spec := "taskScripts", unfollowed := true, recurses := true, apart := false, narrowed := true }
def TaskScriptsUptoSaid : Prop := taskScriptsUptoRow.holds Try.pinned (OpenSpec.upto taskScriptsSpec)

/-- 'sundiallaw06.CellsPlays', WHERE WHAT IT READS IS OF BULK AT MOST 1048576: true; the input reads as it did. -/
def cellsPlaysUptoRow : OpenClaim := { program := "ytgkobmmannkegaa", sum := "2397e627171c7bd5a484781284c07a44ce1c2b0ba1a7997d3b0445b94e844b15", func := "sundial/sundiallaw06.CellsPlays", spec := "cellsPlays", unfollowed := true, recurses := true, apart := false, narrowed := true }
def CellsPlaysUptoSaid : Prop := cellsPlaysUptoRow.holds Try.pinned (OpenSpec.upto cellsPlaysSpec)

/-- 'sundiallaw06.CellsNew', WHERE WHAT IT READS IS OF BULK AT MOST 1048576: true; the input reads as it did. -/
def cellsNewUptoRow : OpenClaim := { program := "ytgkobmmannkegaa", sum := "2397e627171c7bd5a484781284c07a44ce1c2b0ba1a7997d3b0445b94e844b15", func := "sundial/sundiallaw06.CellsNew", spec := "cellsNew", unfollowed := true, recurses := true, apart := false, narrowed := true }
def CellsNewUptoSaid : Prop := cellsNewUptoRow.holds Try.pinned (OpenSpec.upto cellsNewSpec)

/-- 'sundiallaw06.CellsCopy', WHERE WHAT IT READS IS OF BULK AT MOST 1048576: true; the input reads as it did. -/
def cellsCopyUptoRow : OpenClaim := { program := "ytgkobmmannkegaa", sum := "2397e627171c7bd5a484781284c07a44ce1c2b0ba1a7997d3b0445b94e844b15", func := "sundial/sundiallaw06.CellsCopy", spec := "cellsCopy", unfollowed := true, recurses := true, apart := false, narrowed := true }
def CellsCopyUptoSaid : Prop := cellsCopyUptoRow.holds Try.pinned (OpenSpec.upto cellsCopySpec)

/-- 'sundiallaw39.ClockTells', WHERE WHAT IT READS IS OF BULK AT MOST 1048576: true; the input reads as it did. -/
def clockTellsUptoRow : OpenClaim := { program := "ytgkobmmannkegaa", sum := "2397e627171c7bd5a484781284c07a44ce1c2b0ba1a7997d3b0445b94e844b15", func := "sundial/sundiallaw39.ClockTells", spec := "clockTells", unfollowed := true, recurses := true, apart := false, narrowed := true }
def ClockTellsUptoSaid : Prop := clockTellsUptoRow.holds Try.pinned (OpenSpec.upto clockTellsSpec)

/-- 'sundiallaw15.LimboPlays', WHERE WHAT IT READS IS OF BULK AT MOST 1048576: true; the input reads as it did. -/
def limboPlaysUptoRow : OpenClaim := { program := "ytgkobmmannkegaa", sum := "2397e627171c7bd5a484781284c07a44ce1c2b0ba1a7997d3b0445b94e844b15", func := "sundial/sundiallaw15.LimboPlays", spec := "limboPlays", apart := false, narrowed := true }
def LimboPlaysUptoSaid : Prop := limboPlaysUptoRow.holds Try.pinned (OpenSpec.upto limboPlaysSpec)

/-- 'sundiallaw15.LimboOnce', WHERE WHAT IT READS IS OF BULK AT MOST 1048576: true; the input reads as it did. -/
def limboOnceUptoRow : OpenClaim := { program := "ytgkobmmannkegaa", sum := "2397e627171c7bd5a484781284c07a44ce1c2b0ba1a7997d3b0445b94e844b15", func := "sundial/sundiallaw15.LimboOnce", spec := "limboOnce", apart := false, narrowed := true }
def LimboOnceUptoSaid : Prop := limboOnceUptoRow.holds Try.pinned (OpenSpec.upto limboOnceSpec)

/-- 'sundiallaw11.TaskLedgers', WHERE WHAT IT READS IS OF BULK AT MOST 1048576: true; the input reads as it did. -/
def taskLedgersUptoRow : OpenClaim := { program := "ytgkobmmannkegaa", sum := "2397e627171c7bd5a484781284c07a44ce1c2b0ba1a7997d3b0445b94e844b15", func := "sundial/sundiallaw11.TaskLedgers", spec := "taskLedgers", unfollowed := true, recurses := true, apart := false, narrowed := true }
def TaskLedgersUptoSaid : Prop := taskLedgersUptoRow.holds Try.pinned (OpenSpec.upto taskLedgersSpec)

/-- 'sundiallaw11.TaskFlows', WHERE WHAT IT READS IS OF BULK AT MOST 1048576: true; the input reads as it did. -/
def taskFlowsUptoRow : OpenClaim := { program := "ytgkobmmannkegaa", sum := "2397e627171c7bd5a484781284c07a44ce1c2b0ba1a7997d3b0445b94e844b15", func := "sundial/sundiallaw11.TaskFlows", spec := "taskFlows", unfollowed := true, recurses := true, apart := false, narrowed := true }
def TaskFlowsUptoSaid : Prop := taskFlowsUptoRow.holds Try.pinned (OpenSpec.upto taskFlowsSpec)

/-- 'sundiallaw10.BlankAll', WHERE WHAT IT READS IS OF BULK AT MOST 1048576: true; the input reads as it did. -/
def blankAllUptoRow : OpenClaim := { program := "ytgkobmmannkegaa", sum := "2397e627171c7bd5a484781284c07a44ce1c2b0ba1a7997d3b0445b94e844b15", func := "sundial/sundiallaw10.BlankAll", spec := "blankAll", unfollowed := true, recurses := true, apart := false, narrowed := true }
def BlankAllUptoSaid : Prop := blankAllUptoRow.holds Try.pinned (OpenSpec.upto blankAllSpec)

/-- 'sundiallaw10.BlankFree', WHERE WHAT IT READS IS OF BULK AT MOST 1048576: true; the input reads as it did. -/
def blankFreeUptoRow : OpenClaim := { program := "ytgkobmmannkegaa", sum := "2397e627171c7bd5a484781284c07a44ce1c2b0ba1a7997d3b0445b94e844b15", func := "sundial/sundiallaw10.BlankFree", spec := "blankFree", unfollowed := true, recurses := true, apart := false, narrowed := true }
def BlankFreeUptoSaid : Prop := blankFreeUptoRow.holds Try.pinned (OpenSpec.upto blankFreeSpec)

/-- 'sundiallaw10.BlankMakes', WHERE WHAT IT READS IS OF BULK AT MOST 1048576: true; the input reads as it did. -/
def blankMakesUptoRow : OpenClaim := { program := "ytgkobmmannkegaa", sum := "2397e627171c7bd5a484781284c07a44ce1c2b0ba1a7997d3b0445b94e844b15", func := "sundial/sundiallaw10.BlankMakes", spec := "blankMakes", unfollowed := true, recurses := true, apart := false, narrowed := true }
def BlankMakesUptoSaid : Prop := blankMakesUptoRow.holds Try.pinned (OpenSpec.upto blankMakesSpec)

/-- 'sundiallaw28.WakeJust', WHERE WHAT IT READS IS OF BULK AT MOST 1048576: true; the input reads as it did. -/
def wakeJustUptoRow : OpenClaim := { program := "ytgkobmmannkegaa", sum := "2397e627171c7bd5a484781284c07a44ce1c2b0ba1a7997d3b0445b94e844b15", func := "sundial/sundiallaw28.WakeJust", spec := "wakeJust", unfollowed := true, recurses := true, apart := false, narrowed := true }
def WakeJustUptoSaid : Prop := wakeJustUptoRow.holds Try.pinned (OpenSpec.upto wakeJustSpec)

/-- 'sundiallaw11.TaskSteps', WHERE WHAT IT READS IS OF BULK AT MOST 1048576: true; the input reads as it did. -/
def taskStepsUptoRow : OpenClaim := { program := "ytgkobmmannkegaa", sum := "2397e627171c7bd5a484781284c07a44ce1c2b0ba1a7997d3b0445b94e844b15", func := "sundial/sundiallaw11.TaskSteps", spec := "taskSteps", unfollowed := true, recurses := true, apart := false, narrowed := true }
def TaskStepsUptoSaid : Prop := taskStepsUptoRow.holds Try.pinned (OpenSpec.upto taskStepsSpec)

/-- 'sundiallaw29.ParkWaits', WHERE WHAT IT READS IS OF BULK AT MOST 1048576: true; the input reads as it did. -/
def parkWaitsUptoRow : OpenClaim := { program := "ytgkobmmannkegaa", sum := "2397e627171c7bd5a484781284c07a44ce1c2b0ba1a7997d3b0445b94e844b15", func := "sundial/sundiallaw29.ParkWaits", spec := "parkWaits", unfollowed := true, recurses := true, apart := false, narrowed := true }
def ParkWaitsUptoSaid : Prop := parkWaitsUptoRow.holds Try.pinned (OpenSpec.upto parkWaitsSpec)

/-- 'sundiallaw13.PinHolds', WHERE WHAT IT READS IS OF BULK AT MOST 1048576: true; the input reads as it did. -/
def pinHoldsUptoRow : OpenClaim := { program := "ytgkobmmannkegaa", sum := "2397e627171c7bd5a484781284c07a44ce1c2b0ba1a7997d3b0445b94e844b15", func := "sundial/sundiallaw13.PinHolds", spec := "pinHolds", unfollowed := true, recurses := true, apart := false, narrowed := true }
def PinHoldsUptoSaid : Prop := pinHoldsUptoRow.holds Try.pinned (OpenSpec.upto pinHoldsSpec)

/-- 'sundiallaw11.TaskPlays', WHERE WHAT IT READS IS OF BULK AT MOST 1048576: true; the input reads as it did. -/
def taskPlaysUptoRow : OpenClaim := { program := "ytgkobmmannkegaa", sum := "2397e627171c7bd5a484781284c07a44ce1c2b0ba1a7997d3b0445b94e844b15", func := "sundial/sundiallaw11.TaskPlays", spec := "taskPlays", unfollowed := true, recurses := true, apart := false, narrowed := true }
def TaskPlaysUptoSaid : Prop := taskPlaysUptoRow.holds Try.pinned (OpenSpec.upto taskPlaysSpec)

/-- 'sundiallaw14.EpochGoes', WHERE WHAT IT READS IS OF BULK AT MOST 1048576: true; the input reads as it did. -/
def epochGoesUptoRow : OpenClaim := { program := "ytgkobmmannkegaa", sum := "2397e627171c7bd5a484781284c07a44ce1c2b0ba1a7997d3b0445b94e844b15", func := "sundial/sundiallaw14.EpochGoes", spec := "epochGoes", unfollowed := true, recurses := true, apart := false, narrowed := true }
def EpochGoesUptoSaid : Prop := epochGoesUptoRow.holds Try.pinned (OpenSpec.upto epochGoesSpec)

/-- 'sundiallaw12.PoolPops', WHERE WHAT IT READS IS OF BULK AT MOST 1048576: true; the input reads as it did. -/
def poolPopsUptoRow : OpenClaim := { program := "ytgkobmmannkegaa", sum := "2397e627171c7bd5a484781284c07a44ce1c2b0ba1a7997d3b0445b94e844b15", func := "sundial/sundiallaw12.PoolPops", spec := "poolPops", unfollowed := true, recurses := true, apart := false, narrowed := true }
def PoolPopsUptoSaid : Prop := poolPopsUptoRow.holds Try.pinned (OpenSpec.upto poolPopsSpec)

/-- 'sundiallaw12.PoolPushes', WHERE WHAT IT READS IS OF BULK AT MOST 1048576: true; the input reads as it did. -/
def poolPushesUptoRow : OpenClaim := { program := "ytgkobmmannkegaa", sum := "2397e627171c7bd5a484781284c07a44ce1c2b0ba1a7997d3b0445b94e844b15", func := "sundial/sundiallaw12.PoolPushes", spec := "poolPushes", unfollowed := true, recurses := true, apart := false, narrowed := true }
def PoolPushesUptoSaid : Prop := poolPushesUptoRow.holds Try.pinned (OpenSpec.upto poolPushesSpec)

/-- 'sundiallaw12.PoolStack', WHERE WHAT IT READS IS OF BULK AT MOST 1048576: true; the input reads as it did. -/
def poolStackUptoRow : OpenClaim := { program := "ytgkobmmannkegaa", sum := "2397e627171c7bd5a484781284c07a44ce1c2b0ba1a7997d3b0445b94e844b15", func := "sundial/sundiallaw12.PoolStack", spec := "poolStack", unfollowed := true, recurses := true, apart := false, narrowed := true }
def PoolStackUptoSaid : Prop := poolStackUptoRow.holds Try.pinned (OpenSpec.upto poolStackSpec)

end Rows
end Go.Proofs.Ytgkobmmannkegaa
