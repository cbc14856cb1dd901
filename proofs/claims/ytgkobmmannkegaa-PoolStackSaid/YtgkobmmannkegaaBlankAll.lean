/-
  BlankAll (chapter 10): all slots of the memory at the beginning are free.
-/
import Derived.Test.YtgkobmmannkegaaFree
namespace Go.Proofs.Ytgkobmmannkegaa
open Go Go.RowKit
set_option linter.unusedVariables false

theorem free_range (next : Nat → Int) (S : Nat) (hn : ∀ i, 1 ≤ i → i ≤ S → next i = belowP S i) : ∀ m k, m + k = S → freeFrom next S (S + 1 - k) (belowP S k) (List.range' 1 k) = List.range' 1 S := by
  intro m
  induction m with
  | zero =>
    intro k hk
    obtain rfl : k = S := by omega
    rw [show k + 1 - k = 0 + 1 by omega, freeFrom, if_neg]
    unfold belowP
    rw [if_neg (by omega)]
    omega
  | succ m ih =>
    intro k hk
    have e : belowP S k = ((k + 1 : Nat) : Int) := by unfold belowP; rw [if_pos (by omega)]
    rw [show S + 1 - k = (S + 1 - (k + 1)) + 1 by omega, freeFrom, e, if_pos]
    · rw [Int.toNat_natCast, hn (k + 1) (by omega) (by omega), show List.range' 1 k ++ [k + 1] = List.range' 1 (k + 1) by rw [List.range'_1_concat, Nat.add_comm 1 k]]
      exact ih (k + 1) (by omega)
    · refine ⟨by omega, by omega, ?_⟩
      rw [Int.toNat_natCast, List.mem_range'_1]
      omega
section
variable (T S L : Nat) (G : Int)
theorem blankW_wide (hG : 0 ≤ G) (hG2 : G ≤ 4294967295) (hS : S ≤ 64) : Wide (blankW T S L G) := by
  intro x hx
  obtain ⟨p, _, rfl⟩ := List.mem_map.1 hx
  unfold blankF
  have := pairP_bd G 0
  repeat' split
  all_goals omega
theorem blankW_next (i : Nat) (h1 : 1 ≤ i) (h2 : i ≤ S) : nextOf (blankW T S L G) T L i = belowP S i := by
  have hs := slot_of T L (p := pWord T L i 5) (i := i) (k := 5) (by omega) (by omega) rfl
  have hb0 : 4 ≤ pBase T L := by unfold pBase; omega
  unfold nextOf blankW
  rw [vals_wget _ _ _ (pWord_lt T S L i 5 (by omega) h2 (by omega))]
  have n0 : pWord T L i 5 ≠ 0 := by omega
  have n3 : pWord T L i 5 ≠ 3 := by omega
  have nb : ¬ pWord T L i 5 < pBase T L := by omega
  simp only [blankF, n0, n3, nb, hs.1, hs.2.1, if_false]
  simp [h1, h2, belowP]
theorem blankW_top (h1 : 1 ≤ S) : wget (blankW T S L G) 3 % 4294967296 = 1 := by
  have e := vals_wget (pCount T S L) (blankF T S L G (fun j => decide (1 ≤ j ∧ j ≤ S)) true) 3 (by unfold pCount; have := Nat.mul_le_mul_right (6 + L) h1; omega)
  rw [show ((3 : Nat) : Int) = 3 from rfl] at e
  unfold blankW
  rw [e]
  rfl
theorem blank_free (h1 : 1 ≤ S) : freeFrom (nextOf (blankW T S L G) T L) S (S + 1) (wget (blankW T S L G) 3 % 4294967296) [] = List.range' 1 S := by
  rw [blankW_top T S L G h1]
  have := free_range (nextOf (blankW T S L G) T L) S (blankW_next T S L G) S 0 (by omega)
  rw [show belowP S 0 = 1 by unfold belowP; rw [if_pos (by omega)]; rfl] at this
  exact this
end
section
variable (T S L : Nat) (G : Int) (hT : T ≤ 8) (hS : S ≤ 64) (hL : L ≤ 8)
include hT hS hL
theorem blank_all (hP : PRight T S L G) (hG : 0 ≤ G) (b g : Nat) (w : World) (hC : CellsAt w b g (blankW T S L G)) : Calls Try.prog 123 #[.pointer (some ⟨b, 0, none⟩), planV T S L G] w fun e w' =>
    ∃ va vc r, e = .returned (.slice va S vc) ∧ RowOf natR 3 w' 0 r (.slice va (List.range' 1 S).length vc) (List.range' 1 S) ∧ Below w.heap.size w w' := by
  have h1 : 1 ≤ S := by have := hP.2.1; omega
  have := free_calls T S L G hT hS hL hP b g _ (blankW_wide T S L G hG hP.2.2.2 hS) w hC
  rw [blank_free T S L G h1] at this
  refine this.mono ?_
  rintro e w' ⟨va, vc, r, rfl, h⟩
  exact ⟨va, vc, r, by rw [List.length_range'], h⟩
end
end Go.Proofs.Ytgkobmmannkegaa
