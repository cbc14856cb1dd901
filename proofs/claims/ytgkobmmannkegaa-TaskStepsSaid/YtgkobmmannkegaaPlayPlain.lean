/-
  Deeds done one by one (chapter 11, Steps): what is found by each, and the words behind them.
-/
import Derived.Test.YtgkobmmannkegaaAlone
namespace Go.Proofs.Ytgkobmmannkegaa
open Go Go.RowKit
set_option linter.unusedVariables false

/-- Each deed with what was found by it. -/
def playL : List D → List Int → List (D × Int)
  | [], _ => []
  | d :: ds, ws => (d, dGet ws d) :: playL ds (dDo ws d)
/-- The words behind k deeds. -/
def playW (ds : List D) (ws : List Int) (k : Nat) : List Int := (ds.take k).foldl dDo ws
theorem playL_length : ∀ (ds : List D) (ws : List Int), (playL ds ws).length = ds.length
  | [], _ => rfl
  | d :: ds, ws => by simp [playL, playL_length ds]
theorem playW_zero (ds : List D) (ws : List Int) : playW ds ws 0 = ws := by simp [playW]
theorem playW_succ {ds : List D} {ws : List Int} {k : Nat} (h : k < ds.length) : playW ds ws (k + 1) = dDo (playW ds ws k) ds[k] := by
  unfold playW
  rw [List.take_succ_eq_append_getElem h, List.foldl_append]
  rfl
theorem playL_get : ∀ (ds : List D) (ws : List Int) (k : Nat) (h : k < ds.length), (playL ds ws)[k]? = some (ds[k], dGet (playW ds ws k) ds[k])
  | d :: ds, ws, 0, _ => by simp [playL, playW]
  | d :: ds, ws, k + 1, h => by
    have := playL_get ds (dDo ws d) k (by simpa using h)
    simp only [playL, List.getElem?_cons_succ, this, List.getElem_cons_succ]
    simp [playW]
theorem playW_length : ∀ (ds : List D) (ws : List Int) (k : Nat), (playW ds ws k).length = ws.length := by
  intro ds ws k
  unfold playW
  generalize ds.take k = l
  induction l generalizing ws with
  | nil => rfl
  | cons d l ih => rw [List.foldl_cons, ih, dDo_length]
/-- What stands where a list of these is cut. -/
theorem playL_cut {ds : List D} {ws : List Int} {pre rest : List (D × Int)} {x : D × Int} (h : playL ds ws = pre ++ x :: rest) : ∃ hk : pre.length < ds.length, x = (ds[pre.length], dGet (playW ds ws pre.length) ds[pre.length]) := by
  have hl : pre.length < ds.length := by
    have := congrArg List.length h
    rw [playL_length] at this
    simp at this
    omega
  have h1 := playL_get ds ws pre.length hl
  rw [h] at h1
  simp at h1
  exact ⟨hl, h1⟩
theorem playL_pre {ds : List D} {ws : List Int} {pre : List (D × Int)} (h : pre <+: playL ds ws) : pre = (playL ds ws).take pre.length := by
  obtain ⟨t, ht⟩ := h
  rw [← ht]
  simp
/-- The first k of them with the next one. -/
theorem playL_more {ds : List D} {ws : List Int} {k : Nat} (h : k < ds.length) : (playL ds ws).take (k + 1) = (playL ds ws).take k ++ [(ds[k], dGet (playW ds ws k) ds[k])] := by
  have hl : k < (playL ds ws).length := by rw [playL_length]; exact h
  rw [List.take_succ_eq_append_getElem hl]
  have := playL_get ds ws k h
  rw [List.getElem?_eq_getElem hl] at this
  injection this with this
  rw [this]
theorem playL_split {ds : List D} {ws : List Int} {k : Nat} (h : k < ds.length) : playL ds ws = (playL ds ws).take k ++ (ds[k], dGet (playW ds ws k) ds[k]) :: (playL ds ws).drop (k + 1) := by
  have hl : k < (playL ds ws).length := by rw [playL_length]; exact h
  conv => lhs; rw [← List.take_append_drop k (playL ds ws), List.drop_eq_getElem_cons hl]
  have := playL_get ds ws k h
  rw [List.getElem?_eq_getElem hl] at this
  injection this with this
  rw [this]
end Go.Proofs.Ytgkobmmannkegaa
