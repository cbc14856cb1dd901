/-
  The spots of a plan (chapter 9): plain. Which spot stands at a place, and where a spot is.
-/
import Derived.Test.YtippfkokgpdmdaaDoorPlan
namespace Go.Proofs.YtippfkokgpdmdaaDoor
open Go Go.RowKit
set_option linter.unusedVariables false

abbrev Spot := Int × Int × Int
def spotV (x : Spot) : Value := .agg #[.int .i64 x.1, .int .i64 x.2.1, .int .i64 x.2.2]
/-- The spot at a place. -/
def spotAt (T L n : Nat) : Spot :=
  if n < 4 then ((n : Int) + 1, 0, 0)
  else if n < 4 + 3 * T then (5 + (((n - 4) / T : Nat) : Int), (((n - 4) % T : Nat) : Int), 0)
  else if n < 4 + 3 * T + L then (8, 0, ((n - (4 + 3 * T) : Nat) : Int))
  else if (n - (4 + 3 * T + L)) % (6 + L) ≤ 5 then (9 + (((n - (4 + 3 * T + L)) % (6 + L) : Nat) : Int), 1 + (((n - (4 + 3 * T + L)) / (6 + L) : Nat) : Int), 0)
  else (15, 1 + (((n - (4 + 3 * T + L)) / (6 + L) : Nat) : Int), (((n - (4 + 3 * T + L)) % (6 + L) - 6 : Nat) : Int))
def lenP (T S L : Nat) : Nat := 4 + 3 * T + L + S * (6 + L)
theorem spot_low {T L n : Nat} (h : n < 4) : spotAt T L n = ((n : Int) + 1, 0, 0) := by unfold spotAt; rw [if_pos h]
theorem spot_thread {T L j t : Nat} (hj : j < 3) (ht : t < T) : spotAt T L (4 + (j * T + t)) = (5 + (j : Int), (t : Int), 0) := by
  have hlt : j * T + t < 3 * T := by
    have : j = 0 ∨ j = 1 ∨ j = 2 := by omega
    rcases this with rfl | rfl | rfl <;> omega
  unfold spotAt
  rw [if_neg (by omega), if_pos (by omega), show 4 + (j * T + t) - 4 = t + T * j by rw [Nat.mul_comm T j]; omega, Nat.add_mul_div_left _ _ (by omega), Nat.add_mul_mod_self_left, Nat.div_eq_of_lt ht, Nat.mod_eq_of_lt ht]
  simp
theorem spot_head {T L h : Nat} (hh : h < L) : spotAt T L (4 + 3 * T + h) = (8, 0, (h : Int)) := by
  unfold spotAt
  rw [if_neg (by omega), if_neg (by omega), if_pos (by omega), show 4 + 3 * T + h - (4 + 3 * T) = h by omega]
theorem spot_slot {T L i r : Nat} (hr : r < 6 + L) : spotAt T L (4 + 3 * T + L + (i * (6 + L) + r)) = if r ≤ 5 then (9 + (r : Int), 1 + (i : Int), 0) else (15, 1 + (i : Int), ((r - 6 : Nat) : Int)) := by
  unfold spotAt
  rw [if_neg (by omega), if_neg (by omega), if_neg (by omega), show 4 + 3 * T + L + (i * (6 + L) + r) - (4 + 3 * T + L) = r + (6 + L) * i by rw [Nat.mul_comm (6 + L) i]; omega, Nat.add_mul_div_left _ _ (by omega), Nat.add_mul_mod_self_left, Nat.div_eq_of_lt hr, Nat.mod_eq_of_lt hr]
  simp
/-- Every place is one of four kinds. -/
theorem place_cases {T S L n : Nat} (hT : 1 ≤ T) (h : n < lenP T S L) : n < 4 ∨ (∃ j t, j < 3 ∧ t < T ∧ n = 4 + (j * T + t)) ∨ (∃ k, k < L ∧ n = 4 + 3 * T + k) ∨ (∃ i r, i < S ∧ r < 6 + L ∧ n = 4 + 3 * T + L + (i * (6 + L) + r)) := by
  unfold lenP at h
  by_cases h1 : n < 4
  · exact .inl h1
  · by_cases h2 : n < 4 + 3 * T
    · refine .inr (.inl ⟨(n - 4) / T, (n - 4) % T, ?_, Nat.mod_lt _ hT, ?_⟩)
      · rw [Nat.div_lt_iff_lt_mul hT]; omega
      · have := Nat.div_add_mod (n - 4) T
        rw [Nat.mul_comm] at this
        omega
    · by_cases h3 : n < 4 + 3 * T + L
      · exact .inr (.inr (.inl ⟨n - (4 + 3 * T), by omega, by omega⟩))
      · refine .inr (.inr (.inr ⟨(n - (4 + 3 * T + L)) / (6 + L), (n - (4 + 3 * T + L)) % (6 + L), ?_, Nat.mod_lt _ (by omega), ?_⟩))
        · rw [Nat.div_lt_iff_lt_mul (by omega)]; omega
        · have := Nat.div_add_mod (n - (4 + 3 * T + L)) (6 + L)
          rw [Nat.mul_comm] at this
          omega
theorem spot_kind {T S L n : Nat} (hT : 1 ≤ T) (h : n < lenP T S L) : 1 ≤ (spotAt T L n).1 := by
  rcases place_cases hT h with h | ⟨j, t, hj, ht, rfl⟩ | ⟨k, hk, rfl⟩ | ⟨i, r, hi, hr, rfl⟩
  · rw [spot_low h]; simp; omega
  · rw [spot_thread hj ht]; simp; omega
  · rw [spot_head hk]; simp
  · rw [spot_slot hr]; split <;> simp <;> omega
theorem spot_inj {T S L n m : Nat} (hT : 1 ≤ T) (h : n < lenP T S L) (h' : m < lenP T S L) (e : spotAt T L n = spotAt T L m) : n = m := by
  rcases place_cases hT h with h | ⟨j, t, hj, ht, rfl⟩ | ⟨k, hk, rfl⟩ | ⟨i, r, hi, hr, rfl⟩ <;>
    rcases place_cases hT h' with h' | ⟨j', t', hj', ht', rfl⟩ | ⟨k', hk', rfl⟩ | ⟨i', r', hi', hr', rfl⟩
  · rw [spot_low h, spot_low h'] at e
    simp only [Prod.mk.injEq] at e; omega
  · rw [spot_low h, spot_thread hj' ht'] at e
    simp only [Prod.mk.injEq] at e; omega
  · rw [spot_low h, spot_head hk'] at e
    simp only [Prod.mk.injEq] at e; omega
  · rw [spot_low h, spot_slot hr'] at e
    split at e <;> simp only [Prod.mk.injEq] at e <;> omega
  · rw [spot_thread hj ht, spot_low h'] at e
    simp only [Prod.mk.injEq] at e; omega
  · rw [spot_thread hj ht, spot_thread hj' ht'] at e
    simp only [Prod.mk.injEq] at e
    obtain rfl : j = j' := by omega
    omega
  · rw [spot_thread hj ht, spot_head hk'] at e
    simp only [Prod.mk.injEq] at e; omega
  · rw [spot_thread hj ht, spot_slot hr'] at e
    split at e <;> simp only [Prod.mk.injEq] at e <;> omega
  · rw [spot_head hk, spot_low h'] at e
    simp only [Prod.mk.injEq] at e; omega
  · rw [spot_head hk, spot_thread hj' ht'] at e
    simp only [Prod.mk.injEq] at e; omega
  · rw [spot_head hk, spot_head hk'] at e
    simp only [Prod.mk.injEq] at e; omega
  · rw [spot_head hk, spot_slot hr'] at e
    split at e <;> simp only [Prod.mk.injEq] at e <;> omega
  · rw [spot_slot hr, spot_low h'] at e
    split at e <;> simp only [Prod.mk.injEq] at e <;> omega
  · rw [spot_slot hr, spot_thread hj' ht'] at e
    split at e <;> simp only [Prod.mk.injEq] at e <;> omega
  · rw [spot_slot hr, spot_head hk'] at e
    split at e <;> simp only [Prod.mk.injEq] at e <;> omega
  · rw [spot_slot hr, spot_slot hr'] at e
    have hii : i = i' ∧ r = r' := by
      split at e <;> split at e <;> simp only [Prod.mk.injEq] at e <;> omega
    obtain ⟨rfl, rfl⟩ := hii
    rfl
instance (T S L G : Int) : Decidable (PRight T S L G) := by unfold PRight; infer_instance
/-- place.What. -/
def whatP (T S L G at_ : Int) : Spot := if PRight T S L G ∧ 0 ≤ at_ ∧ at_ < lenP T.toNat S.toNat L.toNat then spotAt T.toNat L.toNat at_.toNat else (0, 0, 0)
/-- Where a spot is among the first. -/
def findP (T L : Nat) (s : Spot) (l : List Nat) : Int := match l.find? (fun n => spotAt T L n == s) with
  | some n => n
  | none => -1
/-- place.Where. -/
def whereP (T S L G : Int) (s : Spot) : Int := if PRight T S L G then findP T.toNat L.toNat s (List.range (lenP T.toNat S.toNat L.toNat)) else -1
theorem find_at {T S L n : Nat} (hT : 1 ≤ T) (h : n < lenP T S L) (s : Spot) (e : spotAt T L n = s) : findP T L s (List.range (lenP T S L)) = n := by
  have : (List.range (lenP T S L)).find? (fun n => spotAt T L n == s) = some n := by
    cases hf : (List.range (lenP T S L)).find? (fun n => spotAt T L n == s) with
    | none =>
      have := List.find?_eq_none.1 hf n (List.mem_range.2 h)
      simp [e] at this
    | some k =>
      have h1 := List.find?_some hf
      have h2 := List.mem_range.1 (List.mem_of_find?_eq_some hf)
      simp only [beq_iff_eq] at h1
      rw [spot_inj hT h2 h (h1.trans e.symm)]
  unfold findP
  rw [this]
theorem find_none {T S L : Nat} (s : Spot) (h : ∀ n, n < lenP T S L → spotAt T L n ≠ s) : findP T L s (List.range (lenP T S L)) = -1 := by
  have : (List.range (lenP T S L)).find? (fun n => spotAt T L n == s) = none := by
    rw [List.find?_eq_none]
    intro n hn
    simpa using h n (List.mem_range.1 hn)
  unfold findP
  rw [this]
theorem range_cut {N i : Nat} {pre rest : List Nat} {x : Nat} (h : List.range N = pre ++ x :: rest) : pre = List.range pre.length ∧ x = pre.length ∧ pre.length < N := by
  have hl : pre.length < N := by
    have := congrArg List.length h
    simp at this
    omega
  have hx : x = pre.length := by
    have := congrArg (fun l => l[pre.length]?) h
    simp [hl] at this
    omega
  refine ⟨?_, hx, hl⟩
  have := congrArg (List.take pre.length) h
  rw [List.take_range, List.take_left', Nat.min_eq_left (Nat.le_of_lt hl)] at this
  · exact this.symm
  · rfl
theorem range_split {N i : Nat} (h : i < N) : ∃ rest, List.range N = List.range i ++ i :: rest := by
  refine ⟨(List.range N).drop (i + 1), ?_⟩
  have h1 := List.take_append_drop i (List.range N)
  rw [List.take_range, Nat.min_eq_left (Nat.le_of_lt h), List.drop_eq_getElem_cons (by simpa using h)] at h1
  simpa using h1.symm
end Go.Proofs.YtippfkokgpdmdaaDoor
