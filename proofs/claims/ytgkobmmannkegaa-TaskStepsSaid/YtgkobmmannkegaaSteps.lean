/-
  Steps (chapter 11): the function that is ranged over: what it does between two rounds.
-/
import Derived.Test.YtgkobmmannkegaaDeed
import Derived.Test.YtgkobmmannkegaaScriptTell
import Derived.Test.YtgkobmmannkegaaPlayPlain
import Derived.Test.YtgkobmmannkegaaRangeTask
import Derived.RangeFuncNested
import Derived.RangeFuncBound
import Derived.RangeFuncCalls
import Derived.RangeFuncLeaves
import Derived.Shelf.Abstract
import Derived.Shelf.RegionOpen
import Derived.WalkKit
import Derived.OwnWalkIn
import Derived.TacticsInMore
import Derived.LoopNIn
import Derived.LoopIn
namespace Go.Proofs.Ytgkobmmannkegaa
open Go Go.RowKit Go.Shelf
set_option linter.unusedVariables false

section
variable {w w' : World} {row : Option Nat} (hg : w.grownBy w' row) (hrow : ∀ q, row = some q → ∃ o : Obj, w.heap[q]? = some o ∧ o.isCells = false)
include hg hrow
theorem Blk.turn {b : Nat} {cs : List Value} {T : TypeId} (h : Blk w b cs T) : Blk w' b cs T := by
  unfold Blk at h ⊢
  rw [grownBy_keeps_cells hg hrow h rfl]
  exact h
theorem DeedsB.turn {g : Nat} {v : Value} {ds : List D} (h : DeedsB w g v ds) : DeedsB w' g v ds := by
  obtain ⟨a, c, hv, hc, hx⟩ := h.ex
  refine ⟨a, c, hv, hc, fun hn => ?_⟩
  obtain ⟨off, ha, hcs⟩ := hx hn
  refine ⟨off, ha, fun j hj i hi => ?_⟩
  obtain ⟨u, hu⟩ := D.some_cell ds[j] i hi
  have h1 := hcs j hj i hi
  rw [hu] at h1
  rw [cell_kept h1 hg hrow, hu]
theorem ownsRow_turn {lo : Nat} {e : TypeId} {size : Nat} {v : Value} {n : Nat} {xs : List Value} (h : w.ownsRow lo e size v n xs) : w'.ownsRow lo e size v n xs := by
  refine ⟨h.1, ?_⟩
  rcases h.2 with hn | ⟨q, cap, cur, rfl, h0, hh, rest⟩
  · exact .inl hn
  · exact .inr ⟨q, cap, cur, rfl, h0, (grownBy_keeps_cells hg hrow hh rfl).trans hh, rest⟩
theorem Row.turn {g : Nat} {v : Value} {ws : List Int} (h : Row w g v ws) : Row w' g v ws := by
  obtain ⟨a, c, hv, hc, hx⟩ := h.ex
  refine ⟨a, c, hv, hc, fun hn => ?_⟩
  obtain ⟨ha, cur, hh, hs, ht⟩ := hx hn
  exact ⟨ha, cur, (grownBy_keeps_cells hg hrow hh rfl).trans hh, hs, ht⟩
theorem ScriptAt.turn {b g r : Nat} {left : List D} {found : List Int} (h : ScriptAt w b g r left found) : ScriptAt w' b g r left found := by
  obtain ⟨lv, fv, hB, hD, hO, hk⟩ := h.ex
  exact ⟨⟨lv, fv, hB.turn hg hrow, hD.turn hg hrow, ownsRow_turn hg hrow hO, hk⟩, h.apart, Nat.lt_of_lt_of_le h.size hg.size⟩
theorem CellsAt.turn {b g : Nat} {ws : List Int} (h : CellsAt w b g ws) : CellsAt w' b g ws := by
  obtain ⟨h1, h2, h3, v, hB, hR⟩ := h
  exact ⟨Nat.lt_of_lt_of_le h1 hg.size, h2, h3, v, hB.turn hg hrow, hR.turn hg hrow⟩
end
/-- Where the parts lie: the script in sb (what is left of it in sg), the memory in cb (its words in cg), the boxes of both in tb and cx. -/
structure At where
  sb : Nat
  sg : Nat
  cb : Nat
  cg : Nat
  tb : Nat
  cx : Nat
/-- What the steps rest on, when the rounds pre are over. -/
structure StepSt (p : At) (ds : List D) (ws : List Int) (pre : List (D × Int)) (r : Nat) (W : World) : Prop where
  fst : pre <+: playL ds ws
  tk : Blk W p.tb [.iface 73 (.pointer (some ⟨p.sb, 0, none⟩))] 196
  cx : Blk W p.cx [.pointer (some ⟨p.cb, 0, none⟩)] 67
  sc : ScriptAt W p.sb p.sg r (ds.drop pre.length) (pre.map Prod.snd)
  ce : CellsAt W p.cb p.cg (playW ds ws pre.length)
  nr : r ≠ p.cg ∧ r ≠ p.cb ∧ r ≠ p.tb ∧ r ≠ p.cx
/-- All lie apart. -/
def At.apart (p : At) : Prop := p.sb ≠ p.cg ∧ p.sb ≠ p.cb ∧ p.sg ≠ p.cg ∧ p.tb ≠ p.sb ∧ p.tb ≠ p.cg ∧ p.cx ≠ p.sb ∧ p.cx ≠ p.cg
/-- What the steps turn. -/
def stepOwn (p : At) (r : Nat) (k : Nat) : Prop := k = p.sb ∨ k = r ∨ k = p.cg
theorem StepSt.keeps (p : At) (ds : List D) (ws : List Int) (B : Nat) : Keeps B (StepSt p ds ws) := by
  intro pre r W W' row h hg hrow
  have hr := fun q e => (hrow q e).2
  exact ⟨h.fst, h.tk.turn hg hr, h.cx.turn hg hr, h.sc.turn hg hr, h.ce.turn hg hr, h.nr⟩
theorem StepSt.mod {p : At} {ds : List D} {ws : List Int} {pre : List (D × Int)} {r : Nat} {W W' : World} {S : Nat → Prop} (h : StepSt p ds ws pre r W) (hm : Mod S W W') (h1 : ¬ S p.tb) (h2 : ¬ S p.cx) (h3 : ¬ S p.sb) (h4 : ¬ S p.sg) (h5 : ¬ S r) (h6 : ¬ S p.cb) (h7 : ¬ S p.cg) : StepSt p ds ws pre r W' :=
  ⟨h.fst, hm.blk h.tk h1, hm.blk h.cx h2, h.sc.mod hm h3 h4 h5, h.ce.mod hm h6 h7, h.nr⟩
theorem StepSt.below {p : At} {ds : List D} {ws : List Int} {pre : List (D × Int)} {r : Nat} {W W' : World} (h : StepSt p ds ws pre r W) (hb : Below W.heap.size W W') : StepSt p ds ws pre r W' :=
  h.mod (Mod.of_below (S := fun _ => False) hb) id id id id id id id
/-- How many deeds a script still has. -/
def leftOf (sb : Nat) (W : World) : Nat := match W.cell? ⟨sb, 0, none⟩ with
  | some (.slice _ n _) => n
  | _ => 0
theorem leftOf_eq {W : World} {b g r : Nat} {left : List D} {found : List Int} (h : ScriptAt W b g r left found) : leftOf b W = left.length := by
  obtain ⟨lv, fv, hB, hD, hO, hk⟩ := h.ex
  obtain ⟨a, c, rfl, _⟩ := hD.ex
  unfold leftOf
  rw [hB.cell]
  rfl
theorem steps_new (w : World) (cv tv : Value) (hc : ∃ a, cv = .pointer a) (ht : ∃ a, tv = .iface 73 (.pointer a)) : Calls Try.prog 129 #[cv, tv] w fun e w' => e = .returned (.func (.func 182) #[] #[.pointer (some ⟨w.heap.size + 1, 0, none⟩), .pointer (some ⟨w.heap.size, 0, none⟩)]) ∧ w' = (w.alloc (.cells #[cv] 67)).alloc (.cells #[tv] 196) := by
  obtain ⟨a, rfl⟩ := hc
  obtain ⟨b, rfl⟩ := ht
  go_enter Try.func129, Try.ntmps129
  go_wp2_with fail
  go_ret
  exact ⟨rfl, rfl⟩
/-- What a round is handed. -/
def stepEnc (x : D × Int) : Array Value := #[.agg #[.int .i64 x.1.k, .int .i64 x.1.at_, .int .u64 x.1.a, .int .u64 x.1.b, .int .u64 x.1.by_], .int .u64 x.2]
end Go.Proofs.Ytgkobmmannkegaa
