/-
  Slots that wait (chapter 15), plain: three lists by the epoch's rest, and the document's one list.
-/
import Derived.Test.YtgkobmmannkegaaLimbo
namespace Go.Proofs.Ytgkobmmannkegaa
open Go Go.RowKit
set_option linter.unusedVariables false

/-- Is a slot ripe in an epoch? -/
def ripeB (e : Int) (x : Rt) : Bool := decide (2 ≤ e ∧ x.ep ≤ e - 2)
/-- The place behind the last one of which f holds, of the first n. -/
def lastP (f : Nat → Bool) : Nat → Nat
  | 0 => 0
  | n + 1 => if f n then n + 1 else lastP f n
theorem lastP_le (f : Nat → Bool) : ∀ n, lastP f n ≤ n
  | 0 => Nat.le_refl _
  | n + 1 => by unfold lastP; split; omega; have := lastP_le f n; omega
theorem lastP_at (f : Nat → Bool) (m : Nat) (h1 : 0 < m → f (m - 1) = true) : ∀ n, m ≤ n → (∀ i, m ≤ i → i < n → f i = false) → lastP f n = m
  | 0, hm, _ => by simp [lastP]; omega
  | n + 1, hm, h2 => by
    unfold lastP
    by_cases e : m = n + 1
    · subst e
      rw [show n + 1 - 1 = n by omega] at h1
      rw [if_pos (h1 (by omega))]
    · rw [if_neg (by rw [h2 n (by omega) (by omega)]; simp)]
      exact lastP_at f m h1 n (by omega) (fun i a b => h2 i a (by omega))
/-- Where a slot goes in. -/
def addAt (l : List Rt) (x : Rt) : Nat := lastP (fun i => decide ((l.getD i ⟨0, 0⟩).ep % 3 ≤ x.ep % 3)) l.length
def refAdd (l : List Rt) (x : Rt) : List Rt := l.take (addAt l x) ++ [x] ++ l.drop (addAt l x)
theorem addAt_le (l : List Rt) (x : Rt) : addAt l x ≤ l.length := lastP_le _ _
theorem refAdd_length (l : List Rt) (x : Rt) : (refAdd l x).length = l.length + 1 := by
  unfold refAdd
  have := addAt_le l x
  simp
  omega
theorem refAdd_split (a c : List Rt) (x : Rt) (ha : ∀ y ∈ a, y.ep % 3 ≤ x.ep % 3) (hc : ∀ y ∈ c, ¬ y.ep % 3 ≤ x.ep % 3) : refAdd (a ++ c) x = a ++ [x] ++ c := by
  have e : addAt (a ++ c) x = a.length := by
    unfold addAt
    refine lastP_at _ _ (fun h => ?_) _ (by simp) (fun i h1 h2 => ?_)
    · rw [decide_eq_true_eq, List.getD_eq_getElem?_getD, List.getElem?_append_left (by omega), List.getElem?_eq_getElem (by omega)]
      exact ha _ (List.getElem_mem _)
    · rw [decide_eq_false_iff_not, List.getD_eq_getElem?_getD, List.getElem?_append_right h1, List.getElem?_eq_getElem (by simp at h2; omega)]
      exact hc _ (List.getElem_mem _)
  unfold refAdd
  rw [e]
  simp
/-- The three lists are sorted by their rests. -/
def Cls (l0 l1 l2 : List Rt) : Prop := (∀ y ∈ l0, y.ep % 3 = 0) ∧ (∀ y ∈ l1, y.ep % 3 = 1) ∧ (∀ y ∈ l2, y.ep % 3 = 2)
theorem Cls.nil : Cls [] [] [] := ⟨by simp, by simp, by simp⟩
section
variable {l0 l1 l2 : List Rt}
theorem Cls.add0 (h : Cls l0 l1 l2) {x : Rt} (hx : x.ep % 3 = 0) : Cls (l0 ++ [x]) l1 l2 ∧ refAdd (l0 ++ l1 ++ l2) x = (l0 ++ [x]) ++ l1 ++ l2 := by
  refine ⟨⟨fun y hy => ?_, h.2.1, h.2.2⟩, ?_⟩
  · rcases List.mem_append.1 hy with hy | hy
    · exact h.1 y hy
    · simp at hy; subst hy; exact hx
  · rw [List.append_assoc, refAdd_split l0 (l1 ++ l2) x (fun y hy => by have := h.1 y hy; omega) (fun y hy => by
      rcases List.mem_append.1 hy with hy | hy
      · have := h.2.1 y hy; omega
      · have := h.2.2 y hy; omega)]
    simp
theorem Cls.add1 (h : Cls l0 l1 l2) {x : Rt} (hx : x.ep % 3 = 1) : Cls l0 (l1 ++ [x]) l2 ∧ refAdd (l0 ++ l1 ++ l2) x = l0 ++ (l1 ++ [x]) ++ l2 := by
  refine ⟨⟨h.1, fun y hy => ?_, h.2.2⟩, ?_⟩
  · rcases List.mem_append.1 hy with hy | hy
    · exact h.2.1 y hy
    · simp at hy; subst hy; exact hx
  · rw [refAdd_split (l0 ++ l1) l2 x (fun y hy => by
      rcases List.mem_append.1 hy with hy | hy
      · have := h.1 y hy; omega
      · have := h.2.1 y hy; omega) (fun y hy => by have := h.2.2 y hy; omega)]
    simp
theorem Cls.add2 (h : Cls l0 l1 l2) {x : Rt} (hx : x.ep % 3 = 2) : Cls l0 l1 (l2 ++ [x]) ∧ refAdd (l0 ++ l1 ++ l2) x = l0 ++ l1 ++ (l2 ++ [x]) := by
  refine ⟨⟨h.1, h.2.1, fun y hy => ?_⟩, ?_⟩
  · rcases List.mem_append.1 hy with hy | hy
    · exact h.2.2 y hy
    · simp at hy; subst hy; exact hx
  · have := refAdd_split (l0 ++ l1 ++ l2) [] x (fun y hy => by
      rcases List.mem_append.1 hy with hy | hy
      · rcases List.mem_append.1 hy with hy | hy
        · have := h.1 y hy; omega
        · have := h.2.1 y hy; omega
      · have := h.2.2 y hy; omega) (by simp)
    rw [List.append_nil, List.append_nil] at this
    rw [this]
    simp
theorem Cls.filter (h : Cls l0 l1 l2) (f : Rt → Bool) : Cls (l0.filter f) (l1.filter f) (l2.filter f) :=
  ⟨fun y hy => h.1 y (List.mem_filter.1 hy).1, fun y hy => h.2.1 y (List.mem_filter.1 hy).1, fun y hy => h.2.2 y (List.mem_filter.1 hy).1⟩
theorem filter_parts (f : Rt → Bool) (l : List Rt) : (l.filter f).length + (l.filter fun x => !f x).length = l.length := by
  induction l with
  | nil => rfl
  | cons x l ih => cases hx : f x <;> simp [hx] <;> omega
end
end Go.Proofs.Ytgkobmmannkegaa
