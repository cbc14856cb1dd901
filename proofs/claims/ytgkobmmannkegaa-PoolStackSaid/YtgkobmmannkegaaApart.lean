/-
  All places of a plan's words, as a plain list: each is there once, and they fill the memory.
-/
import Derived.Test.YtgkobmmannkegaaPlan
namespace Go.Proofs.Ytgkobmmannkegaa
open Go Go.RowKit
set_option linter.unusedVariables false

def pNext (T L i k : Nat) : Nat := if i = 0 then 4 + 3 * T + k else 4 + 3 * T + L + (i - 1) * (6 + L) + 6 + k
def pWord (T L i k : Nat) : Nat := 4 + 3 * T + L + (i - 1) * (6 + L) + k
def pThread (T t : Nat) : List Nat := [4 + t, 4 + T + t, 4 + 2 * T + t]
def pSix (T L i : Nat) : List Nat := if i = 0 then [] else [pWord T L i 0, pWord T L i 1, pWord T L i 2, pWord T L i 3, pWord T L i 4, pWord T L i 5]
def pSlot (T L i : Nat) : List Nat := (List.range L).map (pNext T L i) ++ pSix T L i
def pThreads (T t : Nat) : List Nat := [0, 1, 2, 3] ++ (List.range t).flatMap (pThread T)
def pAll (T L s : Nat) : List Nat := pThreads T T ++ (List.range s).flatMap (pSlot T L)
def pCount (T S L : Nat) : Nat := 4 + 3 * T + L + S * (6 + L)
theorem pThreads_succ (T t : Nat) : pThreads T (t + 1) = pThreads T t ++ pThread T t := by simp [pThreads, List.range_succ]
theorem pAll_succ (T L s : Nat) : pAll T L (s + 1) = pAll T L s ++ pSlot T L s := by simp [pAll, List.range_succ]
theorem pThreads_length (T t : Nat) : (pThreads T t).length = 4 + 3 * t := by
  induction t with
  | zero => rfl
  | succ t ih => rw [pThreads_succ, List.length_append, ih]; simp [pThread]; omega
theorem pSlot_length (T L i : Nat) : (pSlot T L i).length = L + if i = 0 then 0 else 6 := by
  unfold pSlot pSix
  by_cases h : i = 0 <;> simp [h]
theorem pAll_length (T L s : Nat) : (pAll T L (s + 1)).length = pCount T s L := by
  induction s with
  | zero => rw [pAll_succ, List.length_append, pSlot_length]; simp [pAll, pThreads_length, pCount]
  | succ s ih => rw [pAll_succ, List.length_append, ih, pSlot_length]; simp [pCount, Nat.succ_mul]; omega
theorem pThreads_mem (T t x : Nat) (h : x ∈ pThreads T t) : x < 4 ∨ ∃ u, u < t ∧ (x = 4 + u ∨ x = 4 + T + u ∨ x = 4 + 2 * T + u) := by
  unfold pThreads pThread at h
  simp only [List.mem_append, List.mem_flatMap, List.mem_range, List.mem_cons, List.not_mem_nil, or_false] at h
  rcases h with h | ⟨u, hu, h⟩
  · left; omega
  · right; exact ⟨u, hu, h⟩
theorem pThreads_nodup (T t : Nat) (h : t ≤ T) : (pThreads T t).Nodup := by
  induction t with
  | zero => simp [pThreads]
  | succ t ih =>
    rw [pThreads_succ, List.nodup_append]
    refine ⟨ih (by omega), ?_, ?_⟩
    · simp [pThread]; omega
    · intro a ha b hb e
      subst e
      simp only [pThread, List.mem_cons, List.not_mem_nil, or_false] at hb
      rcases pThreads_mem T t a ha with h1 | ⟨u, hu, h1⟩ <;> omega
def pLow (T L i : Nat) : Nat := if i = 0 then 4 + 3 * T else 4 + 3 * T + L + (i - 1) * (6 + L)
theorem pSlot_mem (T L i x : Nat) (h : x ∈ pSlot T L i) : pLow T L i ≤ x ∧ x < pCount T i L := by
  unfold pSlot pSix at h
  rw [List.mem_append] at h
  cases i with
  | zero =>
    simp [pNext] at h
    obtain ⟨k, hk, rfl⟩ := h
    simp [pLow, pCount]; omega
  | succ i =>
    simp [pNext, pWord] at h
    simp [pLow, pCount, Nat.succ_mul]
    generalize i * (6 + L) = m at *
    rcases h with ⟨k, hk, rfl⟩ | h
    · omega
    · omega
theorem pSlot_nodup (T L i : Nat) : (pSlot T L i).Nodup := by
  unfold pSlot
  rw [List.nodup_append]
  refine ⟨?_, ?_, ?_⟩
  · refine List.Pairwise.map _ ?_ (List.nodup_range (n := L))
    intro a b hab e
    unfold pNext at e
    split at e <;> omega
  · unfold pSix pWord
    split
    · simp
    · simp
  · intro a ha b hb e
    subst e
    unfold pSix pWord at hb
    simp only [List.mem_map, List.mem_range] at ha
    obtain ⟨k, hk, rfl⟩ := ha
    unfold pNext at hb
    split at hb
    · simp at hb
    · rename_i h0
      simp only [List.mem_cons, List.not_mem_nil, or_false] at hb
      omega
theorem pCount_mono (T L : Nat) {i j : Nat} (h : i ≤ j) : pCount T i L ≤ pCount T j L := by
  unfold pCount
  have := Nat.mul_le_mul_right (6 + L) h
  omega
theorem pLow_ge (T L i : Nat) : 4 + 3 * T ≤ pLow T L i := by
  unfold pLow
  split
  · exact Nat.le_refl _
  · generalize (i - 1) * (6 + L) = m; omega
theorem pAll_mem (T L s x : Nat) (h : x ∈ pAll T L (s + 1)) : x < pCount T s L := by
  induction s with
  | zero =>
    rw [pAll_succ, List.mem_append] at h
    rcases h with h | h
    · simp only [pAll, List.range_zero, List.flatMap_nil, List.append_nil] at h
      rcases pThreads_mem T T x h with h1 | ⟨u, hu, h1⟩ <;> simp [pCount] <;> omega
    · exact (pSlot_mem T L 0 x h).2
  | succ s ih =>
    rw [pAll_succ, List.mem_append] at h
    rcases h with h | h
    · exact Nat.lt_of_lt_of_le (ih h) (pCount_mono T L (by omega))
    · exact (pSlot_mem T L _ x h).2
theorem pAll_nodup (T L s : Nat) : (pAll T L (s + 1)).Nodup := by
  induction s with
  | zero =>
    rw [pAll_succ, List.nodup_append]
    refine ⟨by simpa [pAll] using pThreads_nodup T T (Nat.le_refl _), pSlot_nodup T L 0, ?_⟩
    intro a ha b hb e
    subst e
    have h2 := (pSlot_mem T L 0 a hb).1
    simp only [pAll, List.range_zero, List.flatMap_nil, List.append_nil] at ha
    simp [pLow] at h2
    rcases pThreads_mem T T a ha with h1 | ⟨u, hu, h1⟩ <;> omega
  | succ s ih =>
    rw [pAll_succ, List.nodup_append]
    refine ⟨ih, pSlot_nodup T L _, ?_⟩
    intro a ha b hb e
    subst e
    have h1 := pAll_mem T L s a ha
    have h2 := (pSlot_mem T L (s + 1) a hb).1
    simp [pLow] at h2
    unfold pCount at h1
    omega
end Go.Proofs.Ytgkobmmannkegaa
