/-
  The free slots (chapter 10): a plain function; blank.Free and sundialref10.Free come to it.
-/
import Derived.Test.YtgkobmmannkegaaBlank
namespace Go.Proofs.Ytgkobmmannkegaa
open Go Go.RowKit
set_option linter.unusedVariables false

theorem few_of_nodup : ∀ (S : Nat) (l : List Nat), l.Nodup → (∀ x ∈ l, 1 ≤ x ∧ x ≤ S) → l.length ≤ S
  | 0, l, _, h => by
    cases l with
    | nil => simp
    | cons x l => have := h x (by simp); omega
  | S + 1, l, hn, h => by
    by_cases hm : (S + 1) ∈ l
    · have h1 := few_of_nodup S (l.erase (S + 1)) (hn.erase _) (fun x hx => by
        have h2 := (hn.mem_erase_iff).1 hx
        have := h x h2.2
        omega)
      rw [List.length_erase_of_mem hm] at h1
      omega
    · have := few_of_nodup S l hn (fun x hx => by
        have h1 := h x hx
        have : x ≠ S + 1 := fun e => hm (e ▸ hx)
        omega)
      omega
/-- The free slots from a top on. -/
def freeFrom (next : Nat → Int) (S : Nat) : Nat → Int → List Nat → List Nat
  | 0, _, out => out
  | f + 1, top, out => if 1 ≤ top ∧ top ≤ S ∧ top.toNat ∉ out then freeFrom next S f (next top.toNat) (out ++ [top.toNat]) else out
/-- How far it has come. -/
def FreeRel (next : Nat → Int) (S : Nat) (res : List Nat) (top : Int) (out : List Nat) : Prop := out.Nodup ∧ (∀ x ∈ out, 1 ≤ x ∧ x ≤ S) ∧ freeFrom next S (S + 1 - out.length) top out = res
section
variable {next : Nat → Int} {S : Nat} {res : List Nat} {top : Int} {out : List Nat}
theorem FreeRel.start (next : Nat → Int) (S : Nat) (top : Int) : FreeRel next S (freeFrom next S (S + 1) top []) top [] := ⟨List.nodup_nil, by simp, rfl⟩
theorem FreeRel.few (h : FreeRel next S res top out) : out.length ≤ S := few_of_nodup S out h.1 h.2.1
theorem FreeRel.more (h : FreeRel next S res top out) (i : Nat) (hi : top = i) (h1 : 1 ≤ i) (h2 : i ≤ S) (h3 : i ∉ out) : FreeRel next S res (next i) (out ++ [i]) := by
  subst hi
  obtain ⟨a, b, c⟩ := h
  have hn : (out ++ [i]).Nodup := by
    rw [List.nodup_append]
    exact ⟨a, by simp, fun x hx y hy e => by simp at hy; subst hy; subst e; exact h3 hx⟩
  have hb : ∀ x ∈ out ++ [i], 1 ≤ x ∧ x ≤ S := fun x hx => by
    rw [List.mem_append, List.mem_singleton] at hx
    rcases hx with hx | rfl
    · exact b x hx
    · exact ⟨h1, h2⟩
  have hf := few_of_nodup S _ hn hb
  rw [List.length_append, List.length_singleton] at hf
  refine ⟨hn, hb, ?_⟩
  rw [show S + 1 - out.length = (S + 1 - (out ++ [i]).length) + 1 by simp; omega] at c
  rw [freeFrom, if_pos ⟨by omega, by omega, by simpa using h3⟩] at c
  simpa using c
theorem FreeRel.stop (h : FreeRel next S res top out) (hs : ¬ (1 ≤ top ∧ top ≤ S ∧ top.toNat ∉ out)) : out = res := by
  have hf := h.few
  obtain ⟨a, b, c⟩ := h
  rw [show S + 1 - out.length = (S - out.length) + 1 by omega, freeFrom, if_neg hs] at c
  exact c
end
end Go.Proofs.Ytgkobmmannkegaa
