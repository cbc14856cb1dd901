/-
  The words at the beginning of a plan, as a plain list.
-/
import Derived.Test.YtgkobmmannkegaaField
import Derived.Test.YtgkobmmannkegaaApart
namespace Go.Proofs.Ytgkobmmannkegaa
open Go Go.RowKit
set_option linter.unusedVariables false

/-- A list of n words, word for word. -/
def vals (n : Nat) (f : Nat → Int) : List Int := (List.range n).map f
theorem vals_length (n : Nat) (f : Nat → Int) : (vals n f).length = n := by simp [vals]
theorem vals_ext {n : Nat} {f g : Nat → Int} (h : ∀ p, p < n → f p = g p) : vals n f = vals n g := by
  unfold vals
  exact List.map_congr_left (fun p hp => h p (List.mem_range.1 hp))
theorem vals_zero (n : Nat) : List.replicate n (0 : Int) = vals n (fun _ => 0) := by
  unfold vals; rw [eq_comm, List.eq_replicate_iff]; simp
def upd (f : Nat → Int) (p : Nat) (x : Int) : Nat → Int := fun q => if q = p then x else f q
theorem vals_set (n : Nat) (f : Nat → Int) (p : Nat) (hp : p < n) (x : Int) : (vals n f).set p x = vals n (upd f p x) := by
  apply List.ext_getElem?
  intro q
  rw [List.getElem?_set]
  simp only [vals_length]
  by_cases e : p = q
  · subst e
    simp [vals, upd, hp]
  · simp only [e, if_false]
    by_cases hq : q < n
    · simp [vals, upd, hq, Ne.symm e]
    · rw [List.getElem?_eq_none (by simp [vals]; omega), List.getElem?_eq_none (by simp [vals]; omega)]
theorem vals_wset (n : Nat) (f : Nat → Int) (p : Nat) (hp : p < n) (x : Int) : wset (vals n f) (p : Int) x = vals n (upd f p x) := by
  rw [wset_nat (by rw [vals_length]; exact hp), vals_set n f p hp]
theorem vals_wget (n : Nat) (f : Nat → Int) (p : Nat) (hp : p < n) : wget (vals n f) (p : Int) = f p := by
  rw [wget_nat (by rw [vals_length]; exact hp)]
  simp [vals]

section
variable (T S L : Nat) (G : Int)
def pBase : Nat := 4 + 3 * T + L
def slotI (p : Nat) : Nat := (p - pBase T L) / (6 + L) + 1
def slotK (p : Nat) : Nat := (p - pBase T L) % (6 + L)
theorem slot_of {p i k : Nat} (hi : 0 < i) (hk : k < 6 + L) (h : p = pWord T L i k) : slotI T L p = i ∧ slotK T L p = k ∧ pBase T L ≤ p := by
  subst h
  obtain ⟨i, rfl⟩ : ∃ j, i = j + 1 := ⟨i - 1, by omega⟩
  have e : pWord T L (i + 1) k - pBase T L = k + i * (6 + L) := by
    simp only [pWord, pBase, Nat.add_sub_cancel]
    generalize i * (6 + L) = m; omega
  have hb : pBase T L ≤ pWord T L (i + 1) k := by
    simp only [pWord, pBase, Nat.add_sub_cancel]
    generalize i * (6 + L) = m; omega
  refine ⟨?_, ?_, hb⟩
  · unfold slotI
    rw [e, Nat.add_mul_div_right _ _ (by omega), Nat.div_eq_of_lt hk]; omega
  · unfold slotK
    rw [e, Nat.add_mul_mod_self_right, Nat.mod_eq_of_lt hk]
theorem slot_eq {p : Nat} (h : pBase T L ≤ p) : p = pWord T L (slotI T L p) (slotK T L p) := by
  have := Nat.div_add_mod (p - pBase T L) (6 + L)
  simp only [pWord, slotI, slotK, Nat.add_sub_cancel]
  rw [Nat.mul_comm] at this
  unfold pBase at *
  omega
/-- What stands at a place, where the slots of Q have been done; one3: the free ones' top, too. -/
def blankF (Q : Nat → Bool) (one3 : Bool) (p : Nat) : Int :=
  if p = 0 then 1 else if p = 3 then (if one3 then 1 else 0) else if p < pBase T L then 0
  else if Q (slotI T L p) then (if slotK T L p = 0 then pairP G 0 else if slotK T L p = 5 ∧ slotI T L p < S then ((slotI T L p + 1 : Nat) : Int) else 0) else 0
/-- One slot more. -/
theorem blankF_step (Q : Nat → Bool) (one3 : Bool) (i : Nat) (hi : 0 < i) (hQ : Q i = false) (p : Nat) :
    upd (upd (blankF T S L G Q one3) (pWord T L i 0) (pairP G 0)) (pWord T L i 5) (if i < S then ((i + 1 : Nat) : Int) else 0) p = blankF T S L G (fun j => Q j || j == i) one3 p := by
  have h0 := slot_of T L hi (k := 0) (by omega) rfl
  have h5 := slot_of T L hi (k := 5) (by omega) rfl
  have hb0 : 4 ≤ pBase T L := by unfold pBase; omega
  by_cases e5 : p = pWord T L i 5
  · subst e5
    have n0 : pWord T L i 5 ≠ 0 := by omega
    have n3 : pWord T L i 5 ≠ 3 := by omega
    have nb : ¬ pWord T L i 5 < pBase T L := by omega
    simp only [upd, blankF, n0, n3, nb, h5.1, h5.2.1, if_false, if_true]
    simp
  · by_cases e0 : p = pWord T L i 0
    · subst e0
      have n0 : pWord T L i 0 ≠ 0 := by omega
      have n3 : pWord T L i 0 ≠ 3 := by omega
      have nb : ¬ pWord T L i 0 < pBase T L := by omega
      simp only [upd, blankF, e5, n0, n3, nb, h0.1, h0.2.1, if_false, if_true]
      simp
    · unfold upd
      rw [if_neg e5, if_neg e0]
      unfold blankF
      by_cases c0 : p = 0
      · simp [c0]
      · by_cases c3 : p = 3
        · simp [c3]
        · by_cases cb : p < pBase T L
          · simp [c0, c3, cb]
          · rw [if_neg c0, if_neg c3, if_neg cb, if_neg c0, if_neg c3, if_neg cb]
            by_cases ei : slotI T L p = i
            · have hp := slot_eq T L (p := p) (by omega)
              rw [ei] at hp ⊢
              have k0 : slotK T L p ≠ 0 := fun h => e0 (by rw [h] at hp; exact hp)
              have k5 : slotK T L p ≠ 5 := fun h => e5 (by rw [h] at hp; exact hp)
              simp [hQ, k0, k5]
            · have : (slotI T L p == i) = false := by simpa using ei
              simp [this]
theorem blankF_three (Q : Nat → Bool) (p : Nat) : upd (blankF T S L G Q false) 3 1 p = blankF T S L G Q true p := by
  unfold upd blankF
  by_cases c3 : p = 3
  · subst c3; simp
  · simp [c3]
theorem blankF_none (p : Nat) : upd (fun _ => 0) 0 1 p = blankF T S L G (fun _ => false) false p := by
  unfold upd blankF
  by_cases c0 : p = 0
  · simp [c0]
  · by_cases c3 : p = 3 <;> simp [c0, c3]
/-- The words at the beginning. -/
def blankW : List Int := vals (pCount T S L) (blankF T S L G (fun j => decide (1 ≤ j ∧ j ≤ S)) true)
theorem blankW_length : (blankW T S L G).length = pCount T S L := vals_length _ _
end
end Go.Proofs.Ytgkobmmannkegaa
