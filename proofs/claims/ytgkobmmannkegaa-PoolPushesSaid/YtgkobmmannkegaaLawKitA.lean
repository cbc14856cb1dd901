/-
  An array of numbers as it is handed in; a list of words with their bounds; a list of bools.
-/
import Derived.Test.YtgkobmmannkegaaLawKitW
import Derived.Test.YtgkobmmannkegaaFree
namespace Go.Proofs.Ytgkobmmannkegaa
open Go.ChangeShapes Go.WideShapes Go.ChangeAt Go.RowKit
set_option linter.unusedVariables false
section
variable {H : Type} {enc : TypeId × Value → H} {W : World} {r : Reach} {b0 base : Nat} {spare : Nat → Bool} {held : Bool}
set_option maxRecDepth 100000
theorem ints_of (k : IntKind) : ∀ (l : List Value), (∀ i (h : i < l.length), ∃ x, l[i] = .int k x ∧ (Lit.int k x).wf = true) → ∃ xs : List Int, l = xs.map (.int k) ∧ ∀ x ∈ xs, (Lit.int k x).wf = true
  | [], _ => ⟨[], rfl, by simp⟩
  | v :: l, h => by
    obtain ⟨x, hx, wx⟩ := h 0 (by simp)
    obtain ⟨xs, hl, hw⟩ := ints_of k l (fun i hi => by have := h (i + 1) (by simp; omega); simpa using this)
    refine ⟨x :: xs, by simp only [List.getElem_cons_zero] at hx; rw [hx, hl]; rfl, ?_⟩
    intro y hy
    rcases List.mem_cons.1 hy with rfl | hy
    · exact wx
    · exact hw y hy
theorem open_nums {t e : TypeId} (k : IntKind) (n : Nat) {v : Value} {d : DataW H} {p : List MemPlace} (ht : Try.prog.underlying t = some (.array n e)) (he : Try.prog.underlying e = some (.int k)) (c1 : Try.prog.cellsOf e = 1) (cn : Try.prog.cellsOf t = n)
    (hv : Value.okWide Try.prog W r b0 t v) (h : DataW.Trod enc Try.prog W base spare held t v d p) : ∃ xs : List Int, xs.length = n ∧ v = .agg (xs.map (.int k)).toArray ∧ ∀ x ∈ xs, (Lit.int k x).wf = true := by
  have hs : ∃ cs, v = .agg cs ∧ cs.size = Try.prog.cellsOf t := by
    simp only [Value.okWide, ht] at hv
    obtain ⟨cs, h1, h2, _⟩ := hv
    exact ⟨cs, h1, h2⟩
  obtain ⟨cs, rfl, hsz⟩ := hs
  obtain ⟨fuel, hf⟩ := h
  obtain ⟨ys, m, _, _, _, hl, hg⟩ := DataW.trod_array ht hf
  have hcl : cs.toList.length = n := by rw [Array.length_toList, hsz, cn]
  have key : ∀ i (hi : i < cs.toList.length), ∃ x, cs.toList[i] = .int k x ∧ (Lit.int k x).wf = true := by
    intro i hi
    have h1 := hg i (by omega)
    rw [c1, Nat.mul_one] at h1
    simp only [Value.cells] at h1
    have hd : (cs.toList.drop i).take 1 = [cs.toList[i]] := by rw [List.drop_eq_getElem_cons hi]; rfl
    rw [hd, List.getElem?_eq_getElem (by omega)] at h1
    exact trod_numW he h1
  obtain ⟨xs, hx, hw⟩ := ints_of k cs.toList key
  refine ⟨xs, by rw [← hcl, hx, List.length_map], ?_, hw⟩
  rw [← hx]
theorem open_listW {v : Value} {d : DataW H} {p : List MemPlace} (hv : Value.okWide Try.prog W r b0 25 v) (h : DataW.Trod enc Try.prog W base spare held 25 v d p) :
    ∃ a n c, v = .slice a n c ∧ (∃ ins, U64s W W.heap.size v ins ∧ ins.length = n ∧ Wide ins) := by
  obtain ⟨a, n, c, rfl⟩ := okWide_slice Try.underlying25 hv
  refine ⟨a, n, c, rfl, ?_⟩
  obtain ⟨fuel, hf⟩ := h
  rcases open_ints (k := .u64) Try.underlying25 (by kernel_rfl) (by kernel_rfl) hf with ⟨h1, _⟩ | ⟨a', len, cap, zs, h1, _, hl, _, hz, _, hc, hw⟩
  · simp only [Value.cells, List.cons.injEq, Value.slice.injEq] at h1
    obtain ⟨⟨rfl, rfl, rfl⟩, _⟩ := h1
    exact ⟨[], ⟨none, 0, rfl, fun h0 => absurd h0 (by simp)⟩, rfl, fun x hx => by simp at hx⟩
  · simp only [Value.cells, List.cons.injEq, Value.slice.injEq] at h1
    obtain ⟨⟨rfl, rfl, rfl⟩, _⟩ := h1
    have hn : n ≤ zs.length := by rw [hz]; split <;> omega
    refine ⟨zs.take n, ?_, by simp; omega, fun x hx => ?_⟩
    · have := u64s_of W a' c (zs.take n) (fun i hi => by
        have hi' : i < n ∧ i < zs.length := by simp at hi; omega
        rw [hc i hi'.2]
        simp [List.getD, hi'.1])
      rwa [show (zs.take n).length = n by simp; omega] at this
    · have := bounds_u64 (hw x (List.mem_of_mem_take hx))
      omega
end
end Go.Proofs.Ytgkobmmannkegaa
