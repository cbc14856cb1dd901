/-
  Where the words of any slot and thread stand (chapter 9): plain.
-/
import Derived.Test.YtippfkokgpdmdaaDoorPlacePlain
namespace Go.Proofs.YtippfkokgpdmdaaDoor
open Go Go.RowKit
set_option linter.unusedVariables false
set_option linter.unusedSectionVars false

theorem what_nat {t s l : Nat} {G : Int} (hp : PRight t s l G) {n : Nat} (h : n < lenP t s l) : whatP t s l G n = spotAt t l n := by
  unfold whatP
  rw [if_pos ⟨hp, by omega, by simpa using h⟩]
  simp
theorem what_out {t s l : Nat} {G at_ : Int} (h : ¬ (PRight t s l G ∧ 0 ≤ at_ ∧ at_ < lenP t s l)) : whatP t s l G at_ = (0, 0, 0) := by
  unfold whatP
  rw [if_neg (by simpa using h)]
theorem lenP_le {t s l : Nat} (ht : t ≤ 8) (hs : s ≤ 64) (hl : l ≤ 8) : lenP t s l ≤ 932 := by
  have h2 : s * (6 + l) ≤ 64 * 14 := Nat.mul_le_mul hs (by omega)
  unfold lenP; omega
theorem slot_lt {t s l i r : Nat} (hi : i < s) (hr : r < 6 + l) : 4 + 3 * t + l + (i * (6 + l) + r) < lenP t s l := by
  have h1 : i * (6 + l) + (6 + l) ≤ s * (6 + l) := by have := Nat.mul_le_mul_right (6 + l) hi; rwa [Nat.succ_mul] at this
  unfold lenP; omega
theorem slotN {t s l i : Nat} (ht : t ≤ 8) (hs : s ≤ 64) (hl : l ≤ 8) (hi : i < s) (k : Int) (r : Nat) (hr : r < 6 + l) (hk : k = r) : wrap64 (4 + 3 * (t : Int) + l + (((i : Int) + 1) - 1) * (6 + l) + k) = ((4 + 3 * t + l + (i * (6 + l) + r) : Nat) : Int) := by
  have h1 := slot_lt (t := t) hi hr
  have h2 := lenP_le ht hs hl
  have e : (((i : Int) + 1) - 1) * (6 + (l : Int)) = ((i * (6 + l) : Nat) : Int) := by rw [Int.add_sub_cancel]; push_cast; rfl
  rw [e, wrap64_def]; omega
theorem words_eq {t s l : Nat} (ht : t ≤ 8) (hs : s ≤ 64) (hl : l ≤ 8) : wrap64 (4 + 3 * (t : Int) + l + s * (6 + l)) = ((lenP t s l : Nat) : Int) := by
  have h2 := lenP_le ht hs hl
  have e : (s : Int) * (6 + (l : Int)) = ((s * (6 + l) : Nat) : Int) := by push_cast; rfl
  unfold lenP at *
  rw [e, wrap64_def]; omega
section
variable {t s l : Nat} {G of lv : Int} (hp : PRight t s l G) (ht : 1 ≤ t ∧ t ≤ 8) (hs : 1 ≤ s ∧ s ≤ 64) (hl : 1 ≤ l ∧ l ≤ 8)
include hp ht hs hl
theorem fact_slot (h0 : 1 ≤ of) (h1 : of ≤ s) (k : Nat) (hk : k ≤ 5) : whatP t s l G (slotP t l of k) = (9 + (k : Int), of, 0) := by
  obtain ⟨i, rfl⟩ : ∃ i : Nat, of = i + 1 := ⟨(of - 1).toNat, by omega⟩
  have hi : i < s := by omega
  unfold slotP
  rw [slotN ht.2 hs.2 hl.2 hi k k (by omega) rfl, what_nat hp (slot_lt hi (by omega)), spot_slot (by omega), if_pos hk, Int.add_comm 1 (i : Int)]
theorem fact_state (h0 : 1 ≤ of) (h1 : of ≤ s) : whatP t s l G (slotP t l of 0) = (9, of, 0) := by simpa using fact_slot hp ht hs hl h0 h1 0 (by omega)
theorem fact_hold (h0 : 1 ≤ of) (h1 : of ≤ s) : whatP t s l G (slotP t l of 4) = (13, of, 0) := by simpa using fact_slot hp ht hs hl h0 h1 4 (by omega)
theorem fact_next (h0 : 1 ≤ of) (h1 : of ≤ s) (h2 : 0 ≤ lv) (h3 : lv < l) : whatP t s l G (nextP t l of lv) = (15, of, lv) := by
  obtain ⟨i, rfl⟩ : ∃ i : Nat, of = i + 1 := ⟨(of - 1).toNat, by omega⟩
  obtain ⟨k, rfl⟩ : ∃ k : Nat, lv = k := ⟨lv.toNat, by omega⟩
  have hi : i < s := by omega
  unfold nextP
  rw [if_neg (by omega), Int.add_assoc _ 6 (k : Int), slotN ht.2 hs.2 hl.2 hi (6 + (k : Int)) (6 + k) (by omega) (by omega), what_nat hp (slot_lt hi (by omega)), spot_slot (by omega), if_neg (by omega)]
  simp only [Prod.mk.injEq, true_and]
  omega
theorem fact_head (h2 : 0 ≤ lv) (h3 : lv < l) : whatP t s l G (nextP t l 0 lv) = (8, 0, lv) := by
  obtain ⟨k, rfl⟩ : ∃ k : Nat, lv = k := ⟨lv.toNat, by omega⟩
  have e : wrap64 (4 + 3 * (t : Int) + k) = ((4 + 3 * t + k : Nat) : Int) := by rw [wrap64_def]; omega
  have : 4 + 3 * t + k < lenP t s l := by unfold lenP; omega
  unfold nextP
  rw [if_pos rfl, e, what_nat hp this, spot_head (by omega)]
theorem fact_sem (h0 : 1 ≤ of) (h1 : of ≤ t) : whatP t s l G (wrap64 (4 + 2 * t + (of - 1))) = (7, of - 1, 0) := by
  obtain ⟨i, rfl⟩ : ∃ i : Nat, of = i + 1 := ⟨(of - 1).toNat, by omega⟩
  have e : wrap64 (4 + 2 * (t : Int) + ((i : Int) + 1 - 1)) = ((4 + (2 * t + i) : Nat) : Int) := by rw [wrap64_def]; omega
  have : 4 + (2 * t + i) < lenP t s l := by unfold lenP; omega
  rw [e, what_nat hp this, spot_thread (by omega) (by omega)]
  simp only [Prod.mk.injEq, and_true]
  constructor <;> omega
theorem fact_where {n : Nat} (h : n < lenP t s l) {x : Spot} (e : spotAt t l n = x) : whereP t s l G x = n := by
  unfold whereP
  rw [if_pos hp]
  simp only [Int.toNat_natCast]
  exact find_at ht.1 h x e
theorem fact_succ (h0 : 1 ≤ of) (h1 : of ≤ s) : whereP t s l G (14, of, 0) = slotP t l of 5 := by
  obtain ⟨i, rfl⟩ : ∃ i : Nat, of = i + 1 := ⟨(of - 1).toNat, by omega⟩
  have hi : i < s := by omega
  unfold slotP
  rw [slotN ht.2 hs.2 hl.2 hi 5 5 (by omega) (by omega)]
  refine fact_where hp ht hs hl (slot_lt hi (by omega)) ?_
  rw [spot_slot (by omega), if_pos (by omega)]
  simp only [Prod.mk.injEq, and_true]
  constructor <;> omega
/-- Where a spot is, that spot is; or it is nowhere. -/
theorem fact_back (x : Spot) : whereP t s l G x = -1 ∨ ∃ n : Nat, whereP t s l G x = n ∧ whatP t s l G n = x := by
  by_cases h : ∃ n, n < lenP t s l ∧ spotAt t l n = x
  · obtain ⟨n, hn, e⟩ := h
    exact .inr ⟨n, fact_where hp ht hs hl hn e, by rw [what_nat hp hn, e]⟩
  · left
    unfold whereP
    rw [if_pos hp]
    simp only [Int.toNat_natCast]
    exact find_none x (fun n hn e => h ⟨n, hn, e⟩)
theorem fact_there (h0 : 0 ≤ lv) (h1 : lv < lenP t s l) : whereP t s l G (whatP t s l G lv) = lv ∧ 1 ≤ (whatP t s l G lv).1 := by
  obtain ⟨k, rfl⟩ : ∃ k : Nat, lv = k := ⟨lv.toNat, by omega⟩
  have hk : k < lenP t s l := by omega
  rw [what_nat hp hk]
  exact ⟨fact_where hp ht hs hl hk rfl, spot_kind ht.1 hk⟩
end
theorem where_wrong {T S L G : Int} (hp : ¬ PRight T S L G) (x : Spot) : whereP T S L G x = -1 := by unfold whereP; rw [if_neg hp]
theorem what_wrong {T S L G : Int} (hp : ¬ PRight T S L G) (n : Int) : whatP T S L G n = (0, 0, 0) := by unfold whatP; rw [if_neg (fun h => hp h.1)]
end Go.Proofs.YtippfkokgpdmdaaDoor
