/-
  Structs of numbers as they are handed in: by value, and in a list.
-/
import Derived.Test.YtgkobmmannkegaaLawKitW
import Derived.Test.YtgkobmmannkegaaStructs
import Derived.Deep.Slices
import Derived.Deep.Fields
import Derived.ChangeSame
namespace Go.Proofs.Ytgkobmmannkegaa
open Go.ChangeShapes Go.WideShapes Go.ChangeAt Go.RowKit Go.Deep
set_option linter.unusedVariables false
section
variable {H : Type} {enc : TypeId × Value → H} {P : Program} {w : World} {base : Nat} {spare : Nat → Bool} {held : Bool}
theorem open_slice_fields {t e : TypeId} {fs : Array Field} {fuel : Nat} {cs : List Value} {x : DataW H × List MemPlace} (ht : P.underlying t = some (.slice e)) (he : P.underlying e = some (.struct fs))
    (hone : oneCellFields P fs = true) (hC : P.cellsOf e = fs.size) (h : DataW.trod enc P w base spare held fuel t cs = some x) :
    (cs = [.slice none 0 0] ∧ x = (.nil, [])) ∨
    ∃ (a : Addr) (len cap m : Nat) (D : Nat → DataW H) (Pl : Nat → List MemPlace), cs = [.slice (some a) len cap] ∧ base ≤ a.block ∧ len ≤ cap ∧ cap ≤ maxLen ∧ m = (if spare a.block then cap else len) ∧
      x = (.slice ((List.range len).map D) ((List.range (m - len)).map fun j => D (len + j)), MemPlace.row a (m * fs.size) ++ (List.range m).flatMap Pl) ∧
      ∀ i, i < m → ∃ (ys : List (DataW H × List MemPlace)) (n : Nat), D i = .agg (ys.map (·.1)) ∧ Pl i = ys.flatMap (·.2) ∧ ys.length = fs.size ∧
        ∀ (j : Nat) (f : Field), fs[j]? = some f → ∃ (v : Value) (y : DataW H × List MemPlace), w.cell? (a.add (i * fs.size + j)) = some v ∧ ys[j]? = some y ∧ DataW.trod enc P w base spare held n f.type [v] = some y := by
  rcases open_slice ht h with h0 | ⟨a, len, cap, m, n, D, Pl, hcs, hb, hl, hm, hmm, hx, hi⟩
  · exact .inl h0
  · refine .inr ⟨a, len, cap, m, D, Pl, hcs, hb, hl, hm, hmm, by rw [hC] at hx; exact hx, fun i him => ?_⟩
    obtain ⟨cs', hc, ht'⟩ := hi i him
    rw [hC] at hc
    obtain ⟨ys, n', hn', hy, hlen, hyl, hf⟩ := DataW.trod_struct he ht'
    obtain ⟨_, hcl, hat⟩ := World.cells?_some hc
    simp only [Prod.mk.injEq] at hy
    refine ⟨ys, n', hy.1, hy.2, hyl, fun j f hj => ?_⟩
    obtain ⟨ho, hk⟩ := hone_of hone j f hj
    have hjl : j < fs.size := (Array.getElem?_eq_some_iff.1 hj).1
    have hcell := hat j hjl
    have hv : cs'[j]? = some (cs'[j]'(by omega)) := List.getElem?_eq_getElem (by omega)
    have h1 := hf j f hj
    rw [ho, hk] at h1
    have hone' : (cs'.drop j).take 1 = [cs'[j]'(by omega)] := by
      rw [List.drop_eq_getElem_cons (by omega)]
      rfl
    rw [hone'] at h1
    have hys : ys[j]? = some (ys[j]'(by omega)) := List.getElem?_eq_getElem (by omega)
    refine ⟨_, _, ?_, hys, h1.trans hys⟩
    rw [← Go.Deep.add_add, hcell, hv]
end
section
variable {H : Type} {enc : TypeId × Value → H} {W : World} {r : Reach} {b0 base : Nat} {spare : Nat → Bool} {held : Bool}
set_option maxRecDepth 100000
/-- A slice of structs, all of whose fields are numbers (of the kinds ks). -/
theorem open_structs {t e : TypeId} {fs : Array Field} (ks : List IntKind) {v : Value} {d : DataW H} {p : List MemPlace} (ht : Try.prog.underlying t = some (.slice e)) (he : Try.prog.underlying e = some (.struct fs))
    (hone : oneCellFields Try.prog fs = true) (hC : Try.prog.cellsOf e = fs.size) (h0 : 0 < fs.size) (hks : ∀ (j : Nat) (f : Field), fs[j]? = some f → ∃ k, ks[j]? = some k ∧ Try.prog.underlying f.type = some (.int k))
    (hv : Value.okWide Try.prog W r b0 t v) (h : DataW.Trod enc Try.prog W base spare held t v d p) : ∃ a n c, v = .slice a n c ∧ NumsR W W.heap.size ks fs.size v n := by
  obtain ⟨a, n, c, rfl⟩ := okWide_slice ht hv
  refine ⟨a, n, c, rfl, ?_⟩
  obtain ⟨fuel, hf⟩ := h
  rcases open_slice_fields ht he hone hC hf with ⟨h1, _⟩ | ⟨a', len, cap, m, D, Pl, h1, hb, hl, hcm, hm, _, hi⟩
  · simp only [Value.cells, List.cons.injEq, Value.slice.injEq] at h1
    obtain ⟨⟨rfl, rfl, rfl⟩, _⟩ := h1
    exact ⟨none, 0, rfl, Nat.le_refl _, fun h0 => absurd h0 (by omega)⟩
  · simp only [Value.cells, List.cons.injEq, Value.slice.injEq] at h1
    obtain ⟨⟨rfl, rfl, rfl⟩, _⟩ := h1
    have hnm : n ≤ m := by rw [hm]; split <;> omega
    refine nums_of W a' c n fs.size ks h0 hl (fun i hi' j hj => ?_)
    obtain ⟨ys, n', _, _, _, hF⟩ := hi i (by omega)
    have hfj : fs[j]? = some fs[j] := Array.getElem?_eq_getElem hj
    obtain ⟨v, y, hc, _, htr⟩ := hF j fs[j] hfj
    obtain ⟨k, hk, hu⟩ := hks j fs[j] hfj
    obtain ⟨x, rfl, hw⟩ := trod_numW hu htr
    exact ⟨k, x, hk, hc, hw⟩
/-- A list of words as it is handed in, and its capacity. -/
theorem open_listC {v : Value} {d : DataW H} {p : List MemPlace} (hv : Value.okWide Try.prog W r b0 25 v) (h : DataW.Trod enc Try.prog W base spare held 25 v d p) :
    ∃ a n c, v = .slice a n c ∧ n ≤ c ∧ (∃ ins, U64s W W.heap.size v ins ∧ ins.length = n) := by
  have h' := h
  obtain ⟨a, n, c, rfl, hI⟩ := open_list hv h
  refine ⟨a, n, c, rfl, ?_, hI⟩
  obtain ⟨fuel, hf⟩ := h'
  rcases open_ints (k := .u64) Try.underlying25 (by kernel_rfl) (by kernel_rfl) hf with ⟨h1, _⟩ | ⟨a', len, cap, zs, h1, _, hl, _, hz, _, hc, _⟩
  · simp only [Value.cells, List.cons.injEq, Value.slice.injEq] at h1
    omega
  · simp only [Value.cells, List.cons.injEq, Value.slice.injEq] at h1
    omega
theorem open_op {v : Value} {d : DataW H} {p : List MemPlace} (hv : Value.okWide Try.prog W r b0 84 v) (h : DataW.Trod enc Try.prog W base spare held 84 v d p) : ∃ k at_ a b, v = opV k at_ a b := by
  obtain ⟨v0, v1, v2, v3, y0, y1, y2, y3, n, rfl, _, _, h0, h1, h2, h3⟩ := Go.Joins.open_agg4 Try.underlying84 (by kernel_rfl) (by kernel_rfl) hv h
  obtain ⟨k, rfl⟩ := trod_num (k := .i64) (by kernel_rfl) h0
  obtain ⟨at_, rfl⟩ := trod_num (k := .i64) (by kernel_rfl) h1
  obtain ⟨a, rfl⟩ := trod_num (k := .u64) (by kernel_rfl) h2
  obtain ⟨b, rfl⟩ := trod_num (k := .u64) (by kernel_rfl) h3
  exact ⟨k, at_, a, b, rfl⟩
theorem field_kind {fs : Array Field} {j : Nat} {f : Field} {k : IntKind} (hf : fs[j]? = some f) (h : fs[j]?.map (fun f => Try.prog.underlying f.type) = some (some (.int k))) : Try.prog.underlying f.type = some (.int k) := by
  rw [hf] at h; simpa using h
theorem field_kinds {fs : Array Field} {ks : List IntKind} (hl : ks.length = fs.size) (h : ∀ j, j < fs.size → ∀ f k, fs[j]? = some f → ks[j]? = some k → Try.prog.underlying f.type = some (.int k)) :
    ∀ (j : Nat) (f : Field), fs[j]? = some f → ∃ k, ks[j]? = some k ∧ Try.prog.underlying f.type = some (.int k) := by
  intro j f hf
  have hj := (Array.getElem?_eq_some_iff.1 hf).1
  exact ⟨ks[j]'(by omega), List.getElem?_eq_getElem _, h j hj f _ hf (List.getElem?_eq_getElem _)⟩
theorem open_deeds {v : Value} {d : DataW H} {p : List MemPlace} (hv : Value.okWide Try.prog W r b0 29 v) (h : DataW.Trod enc Try.prog W base spare held 29 v d p) : ∃ a n c, v = .slice a n c ∧ NumsR W W.heap.size [.i64, .i64, .u64, .u64, .u64] 5 v n := by
  have e : ∀ (j : Nat) (f : Field), (Try.prog.fieldsOf 31)[j]? = some f → ∃ k, [IntKind.i64, .i64, .u64, .u64, .u64][j]? = some k ∧ Try.prog.underlying f.type = some (.int k) := by
    refine field_kinds (by kernel_rfl) (fun j hj f k hf hk => ?_)
    have hz : (Try.prog.fieldsOf 31).size = 5 := by kernel_rfl
    have h4 : j = 0 ∨ j = 1 ∨ j = 2 ∨ j = 3 ∨ j = 4 := by omega
    rcases h4 with rfl | rfl | rfl | rfl | rfl <;> (cases hk; exact field_kind hf (by kernel_rfl))
  exact open_structs [.i64, .i64, .u64, .u64, .u64] Try.underlying29 Try.underlying31 (by kernel_rfl) (by kernel_rfl) (by decide) e hv h
theorem open_acts {v : Value} {d : DataW H} {p : List MemPlace} (hv : Value.okWide Try.prog W r b0 114 v) (h : DataW.Trod enc Try.prog W base spare held 114 v d p) : ∃ a n c, v = .slice a n c ∧ NumsR W W.heap.size [.i64, .u64, .i64, .i64] 4 v n := by
  have e : ∀ (j : Nat) (f : Field), (Try.prog.fieldsOf 119)[j]? = some f → ∃ k, [IntKind.i64, .u64, .i64, .i64][j]? = some k ∧ Try.prog.underlying f.type = some (.int k) := by
    refine field_kinds (by kernel_rfl) (fun j hj f k hf hk => ?_)
    have hz : (Try.prog.fieldsOf 119).size = 4 := by kernel_rfl
    have h4 : j = 0 ∨ j = 1 ∨ j = 2 ∨ j = 3 := by omega
    rcases h4 with rfl | rfl | rfl | rfl <;> (cases hk; exact field_kind hf (by kernel_rfl))
  exact open_structs [.i64, .u64, .i64, .i64] Try.underlying114 Try.underlying119 (by kernel_rfl) (by kernel_rfl) (by decide) e hv h
theorem open_ops {v : Value} {d : DataW H} {p : List MemPlace} (hv : Value.okWide Try.prog W r b0 78 v) (h : DataW.Trod enc Try.prog W base spare held 78 v d p) : ∃ a n c, v = .slice a n c ∧ NumsR W W.heap.size [.i64, .i64, .u64, .u64] 4 v n := by
  have e : ∀ (j : Nat) (f : Field), (Try.prog.fieldsOf 84)[j]? = some f → ∃ k, [IntKind.i64, .i64, .u64, .u64][j]? = some k ∧ Try.prog.underlying f.type = some (.int k) := by
    refine field_kinds (by kernel_rfl) (fun j hj f k hf hk => ?_)
    have hz : (Try.prog.fieldsOf 84).size = 4 := by kernel_rfl
    have h4 : j = 0 ∨ j = 1 ∨ j = 2 ∨ j = 3 := by omega
    rcases h4 with rfl | rfl | rfl | rfl <;> (cases hk; exact field_kind hf (by kernel_rfl))
  exact open_structs [.i64, .i64, .u64, .u64] Try.underlying78 Try.underlying84 (by kernel_rfl) (by kernel_rfl) (by decide) e hv h
end
end Go.Proofs.Ytgkobmmannkegaa
