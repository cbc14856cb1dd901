/-
  place.spots (57): the function that is ranged over (72), and what it tells with (73).
-/
import Derived.Test.YtippfkokgpdmdaaDoorPlacePlain
import Derived.Test.YtippfkokgpdmdaaDoorRangeTask
import Derived.Test.YtippfkokgpdmdaaDoorRobustTail
import Derived.RangeFuncNested
import Derived.RangeFuncBound
import Derived.RangeFuncCalls
import Derived.RangeFuncLeaves
import Derived.Shelf.Abstract
import Derived.Shelf.RegionOpen
import Derived.WalkKit
import Derived.OwnWalkIn
import Derived.TacticsInMore
import Derived.LoopNIn
import Derived.LoopIn
namespace Go.Proofs.YtippfkokgpdmdaaDoor
open Go Go.RowKit Go.Shelf
set_option linter.unusedVariables false

theorem Blk.turn {w w' : World} {row : Option Nat} {b : Nat} {cs : List Value} {T : TypeId} (h : Blk w b cs T) (hg : w.grownBy w' row) (hrow : ∀ q, row = some q → ∃ o : Obj, w.heap[q]? = some o ∧ o.isCells = false) : Blk w' b cs T := by
  unfold Blk at h ⊢
  rw [grownBy_keeps_cells hg hrow h rfl]
  exact h
theorem YieldAt.any {m m' : Nat} {P : Program} {l : Nat} {args : Array Value} {W : World} {R : Ending → World → Prop} (h : YieldAt Fence.wide m P l args W R) : YieldAt Fence.wide m' P l args W R := by
  obtain ⟨fn, tmps, assign, body, hy, hR⟩ := h
  exact ⟨fn, tmps, assign, body, hy, hR.1, fun c cs _ => hR.2 c cs (room_wide _)⟩
attribute [local go_sem] Oper.semAt_some
theorem tell_in (n : Nat) (l b tb i : Nat) (x y z : Int) (W : World) (Post : Bool → World → Prop) (hA : Blk W b [.int .i64 (i : Int)] 3) (hT : Blk W tb [.func (.yield l) #[] #[]] 91) (hi : i < 100000)
    (hY : ∀ W2, Mod (fun k => k = b) W W2 → Blk W2 b [.int .i64 ((i + 1 : Nat) : Int)] 3 → Blk W2 tb [.func (.yield l) #[] #[]] 91 →
      YieldAt Fence.wide (n - 1) Tryd.prog l #[.int .i64 (i : Int), .agg #[.int .i64 x, .int .i64 y, .int .i64 z]] W2 fun e W' => ∃ r, e = .returned (.bool r) ∧ Post r W') :
    CallsIn Fence.wide n Tryd.prog 73 #[.agg #[.int .i64 x, .int .i64 y, .int .i64 z], .pointer (some ⟨b, 0, none⟩), .pointer (some ⟨tb, 0, none⟩)] W fun e W' => ∃ r, e = .returned (.bool r) ∧ Post r W' := by
  have lA := hA.lt
  have lT := hT.lt
  have hne : b ≠ tb := by
    rintro rfl
    unfold Blk at hA hT
    rw [hA] at hT
    injection hT with hT
    injection hT with _ hT
    cases hT
  have C1 := hA.cell
  have F1 := hA.frozen
  have D1 := hT.cell
  have m1 : Mod (fun k => k = b) W ((W.setCell ⟨b, 0, none⟩ (.int .i64 ((i : Int) + 1))).alloc (.cells #[.int .i64 x, .int .i64 y, .int .i64 z] 36)) := (Mod.one _ _ _ _).alloc _
  have A2 := (hA.set 0 (.int .i64 ((i : Int) + 1))).alloc (.cells #[.int .i64 x, .int .i64 y, .int .i64 z] 36)
  have T2 := (hT.set_other (a := ⟨b, 0, none⟩) hne (.int .i64 ((i : Int) + 1))).alloc (.cells #[.int .i64 x, .int .i64 y, .int .i64 z] 36)
  have hY2 := hY _ m1 (by rw [show (((i + 1 : Nat) : Nat) : Int) = (i : Int) + 1 by omega]; exact A2) T2
  obtain ⟨fn, tmps, assign, body, hy, hR⟩ := hY2
  have HR := Lib.hid hR
  have hw : IntKind.i64.wrap ((i : Int) + 1) = (i : Int) + 1 := by rw [IntKind.wrap_i64]; omega
  have hw2 : wrap64 ((i : Int) + 1) = (i : Int) + 1 := by unfold wrap64; omega
  have hw3 : (i : Int) + 1 - 1 = (i : Int) := by omega
  have hw4 : wrap64 (i : Int) = (i : Int) := by unfold wrap64; omega
  clear hY hA hT A2 T2 m1 hR
  refine callsIn_of_wp Tryd.func73 rfl trivial ?_ rfl
  simp only [Tryd.ntmps73, List.size_toArray, List.length_cons, List.length_nil, Nat.reduceAdd, Nat.reduceSub, Array.replicate_succ, Array.replicate_zero, List.push_toArray, List.append_toArray, List.nil_append, List.cons_append]
  gi_wp2
  refine ⟨(by intro h; cases h), HR.out.mono ?_⟩
  rintro e w6 ⟨r, rfl, hp⟩
  gi_wp2
  refine bodyPost_ret (results_tmp rfl _ _ _) rfl ?_
  exact ⟨r, rfl, hp⟩
/-- What a round is handed. -/
def spotEnc (T L : Nat) (i : Nat) : Array Value := #[.int .i64 (i : Int), spotV (spotAt T L i)]
/-- The parts that the function has of its own, once they are made: the cell of the count, the box of yield. -/
def spotOwn (s : Option (Nat × Nat × Nat)) (k : Nat) : Prop := match s with
  | none => False
  | some (b, _, _) => k = b
/-- What they hold. -/
def SpotSt (T S L G : Int) (pb : Nat) (pre : List Nat) (s : Option (Nat × Nat × Nat)) (W : World) : Prop :=
  Blk W pb [.int .i64 T, .int .i64 S, .int .i64 L, .int .u64 G] 34 ∧ match s with
    | none => True
    | some (b, tb, l) => Blk W b [.int .i64 (pre.length : Int)] 3 ∧ Blk W tb [.func (.yield l) #[] #[]] 91
theorem SpotSt.keeps (T S L G : Int) (pb B : Nat) : Keeps B (SpotSt T S L G pb) := by
  intro pre s W W' row h hg hrow
  have hr := fun q e => (hrow q e).2
  refine ⟨h.1.turn hg hr, ?_⟩
  have h2 := h.2
  cases s with
  | none => trivial
  | some x =>
    obtain ⟨b, tb, l⟩ := x
    exact ⟨h2.1.turn hg hr, h2.2.turn hg hr⟩
theorem SpotSt.below {T S L G : Int} {pb : Nat} {pre : List Nat} {s : Option (Nat × Nat × Nat)} {W W' : World} (h : SpotSt T S L G pb pre s W) (hb : Below W.heap.size W W') : SpotSt T S L G pb pre s W' := by
  refine ⟨h.1.below' hb, ?_⟩
  have h2 := h.2
  cases s with
  | none => trivial
  | some x =>
    obtain ⟨b, tb, l⟩ := x
    exact ⟨h2.1.below' hb, h2.2.below' hb⟩
end Go.Proofs.YtippfkokgpdmdaaDoor
