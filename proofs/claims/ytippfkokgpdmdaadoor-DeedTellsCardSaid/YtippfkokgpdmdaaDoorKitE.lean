/-
  Lists of words and of deeds as they are handed in, and one deed.
-/
import Derived.Test.YtippfkokgpdmdaaDoorKitD
import Derived.Test.YtippfkokgpdmdaaDoorDeedRef
import Derived.Deep.Slices
import Derived.Deep.Fields
namespace Go.Proofs.YtippfkokgpdmdaaDoor
open Go.ChangeShapes Go.WideShapes Go.ChangeAt Go.RowKit Go.Deep
set_option linter.unusedVariables false
section
variable {H : Type} {enc : TypeId × Value → H} {P : Program} {w : World} {base : Nat} {spare : Nat → Bool} {held : Bool}
theorem open_slice_fields {t e : TypeId} {fs : Array Field} {fuel : Nat} {cs : List Value} {x : DataW H × List MemPlace} (ht : P.underlying t = some (.slice e)) (he : P.underlying e = some (.struct fs))
    (hone : oneCellFields P fs = true) (hC : P.cellsOf e = fs.size) (h : DataW.trod enc P w base spare held fuel t cs = some x) :
    (cs = [.slice none 0 0] ∧ x = (.nil, [])) ∨
    ∃ (a : Addr) (len cap m : Nat) (D : Nat → DataW H) (Pl : Nat → List MemPlace), cs = [.slice (some a) len cap] ∧ base ≤ a.block ∧ len ≤ cap ∧ cap ≤ maxLen ∧ m = (if spare a.block then cap else len) ∧
      x = (.slice ((List.range len).map D) ((List.range (m - len)).map fun j => D (len + j)), MemPlace.row a (m * fs.size) ++ (List.range m).flatMap Pl) ∧
      ∀ i, i < m → ∃ (ys : List (DataW H × List MemPlace)) (n : Nat), D i = .agg (ys.map (·.1)) ∧ Pl i = ys.flatMap (·.2) ∧ ys.length = fs.size ∧
        ∀ (j : Nat) (f : Field), fs[j]? = some f → ∃ (v : Value) (y : DataW H × List MemPlace), w.cell? (a.add (i * fs.size + j)) = some v ∧ ys[j]? = some y ∧ DataW.trod enc P w base spare held n f.type [v] = some y := by
  rcases open_slice ht h with h0 | ⟨a, len, cap, m, n, D, Pl, hcs, hb, hl, hm, hmm, hx, hi⟩
  · exact .inl h0
  · refine .inr ⟨a, len, cap, m, D, Pl, hcs, hb, hl, hm, hmm, by rw [hC] at hx; exact hx, fun i him => ?_⟩
    obtain ⟨cs', hc, ht'⟩ := hi i him
    rw [hC] at hc
    obtain ⟨ys, n', hn', hy, hlen, hyl, hf⟩ := DataW.trod_struct he ht'
    obtain ⟨_, hcl, hat⟩ := World.cells?_some hc
    simp only [Prod.mk.injEq] at hy
    refine ⟨ys, n', hy.1, hy.2, hyl, fun j f hj => ?_⟩
    obtain ⟨ho, hk⟩ := hone_of hone j f hj
    have hjl : j < fs.size := (Array.getElem?_eq_some_iff.1 hj).1
    have hcell := hat j hjl
    have hv : cs'[j]? = some (cs'[j]'(by omega)) := List.getElem?_eq_getElem (by omega)
    have h1 := hf j f hj
    rw [ho, hk] at h1
    have hone' : (cs'.drop j).take 1 = [cs'[j]'(by omega)] := by
      rw [List.drop_eq_getElem_cons (by omega)]
      rfl
    rw [hone'] at h1
    have hys : ys[j]? = some (ys[j]'(by omega)) := List.getElem?_eq_getElem (by omega)
    refine ⟨_, _, ?_, hys, h1.trans hys⟩
    rw [← Go.Deep.add_add, hcell, hv]
end
theorem u64s_of (w : World) (a : Addr) (cap : Nat) (zs : List Int) (h : ∀ i, i < zs.length → w.cell? (a.add i) = some (.int .u64 (zs.getD i 0))) :
    U64s w w.heap.size (.slice (some a) zs.length cap) zs := by
  refine ⟨some a, cap, rfl, fun h0 => ?_⟩
  obtain ⟨b, off, spot⟩ := a
  have c0 := h 0 h0
  rw [show Addr.add ⟨b, off, spot⟩ 0 = ⟨b, off, spot⟩ by simp [Addr.add]] at c0
  have hs : spot = none := by
    cases spot with
    | none => rfl
    | some s =>
      unfold World.cell? at c0
      split at c0 <;> simp at c0
  subst hs
  refine ⟨b, off, rfl, World.block_lt_of_cell? w _ c0, fun j hj => ?_⟩
  have := h j hj
  rw [show Addr.add ⟨b, off, none⟩ j = ⟨b, off + j, none⟩ by unfold Addr.add; split <;> simp_all] at this
  rw [this]; simp [List.getD, hj]
section
variable {H : Type} {enc : TypeId × Value → H} {W : World} {r : Reach} {b0 base : Nat} {spare : Nat → Bool} {held : Bool}
set_option maxRecDepth 100000
theorem open_list {v : Value} {d : DataW H} {p : List MemPlace} (hv : Value.okWide Tryd.prog W r b0 52 v) (h : DataW.Trod enc Tryd.prog W base spare held 52 v d p) :
    ∃ a n c, v = .slice a n c ∧ (∃ ins, U64s W W.heap.size v ins ∧ ins.length = n) := by
  obtain ⟨a, n, c, rfl⟩ := okWide_slice Tryd.underlying52 hv
  refine ⟨a, n, c, rfl, ?_⟩
  obtain ⟨fuel, hf⟩ := h
  rcases open_ints (k := .u64) Tryd.underlying52 (by kernel_rfl) (by kernel_rfl) hf with ⟨h1, _⟩ | ⟨a', len, cap, zs, h1, _, hl, _, hz, _, hc, _⟩
  · simp only [Value.cells, List.cons.injEq, Value.slice.injEq] at h1
    obtain ⟨⟨rfl, rfl, rfl⟩, _⟩ := h1
    exact ⟨[], ⟨none, 0, rfl, fun h0 => absurd h0 (by simp)⟩, rfl⟩
  · simp only [Value.cells, List.cons.injEq, Value.slice.injEq] at h1
    obtain ⟨⟨rfl, rfl, rfl⟩, _⟩ := h1
    have hn : n ≤ zs.length := by rw [hz]; split <;> omega
    refine ⟨zs.take n, ?_, by simp; omega⟩
    have := u64s_of W a' c (zs.take n) (fun i hi => by
      have hi' : i < n ∧ i < zs.length := by simp at hi; omega
      rw [hc i hi'.2]
      simp [List.getD, hi'.1])
    rwa [show (zs.take n).length = n by simp; omega] at this
/-- A slice of structs, all of whose fields are numbers (of the kinds ks). -/
theorem open_structs {t e : TypeId} {fs : Array Field} (ks : List IntKind) {v : Value} {d : DataW H} {p : List MemPlace} (ht : Tryd.prog.underlying t = some (.slice e)) (he : Tryd.prog.underlying e = some (.struct fs))
    (hone : oneCellFields Tryd.prog fs = true) (hC : Tryd.prog.cellsOf e = fs.size) (h0 : 0 < fs.size) (hks : ∀ (j : Nat) (f : Field), fs[j]? = some f → ∃ k, ks[j]? = some k ∧ Tryd.prog.underlying f.type = some (.int k))
    (hv : Value.okWide Tryd.prog W r b0 t v) (h : DataW.Trod enc Tryd.prog W base spare held t v d p) : ∃ a n c, v = .slice a n c ∧ NumsR W W.heap.size ks fs.size v n := by
  obtain ⟨a, n, c, rfl⟩ := okWide_slice ht hv
  refine ⟨a, n, c, rfl, ?_⟩
  obtain ⟨fuel, hf⟩ := h
  rcases open_slice_fields ht he hone hC hf with ⟨h1, _⟩ | ⟨a', len, cap, m, D, Pl, h1, hb, hl, hcm, hm, _, hi⟩
  · simp only [Value.cells, List.cons.injEq, Value.slice.injEq] at h1
    obtain ⟨⟨rfl, rfl, rfl⟩, _⟩ := h1
    exact ⟨none, 0, rfl, Nat.le_refl _, fun h0 => absurd h0 (by omega)⟩
  · simp only [Value.cells, List.cons.injEq, Value.slice.injEq] at h1
    obtain ⟨⟨rfl, rfl, rfl⟩, _⟩ := h1
    have hnm : n ≤ m := by rw [hm]; split <;> omega
    refine nums_of W a' c n fs.size ks h0 hl (fun i hi' j hj => ?_)
    obtain ⟨ys, n', _, _, _, hF⟩ := hi i (by omega)
    have hfj : fs[j]? = some fs[j] := Array.getElem?_eq_getElem hj
    obtain ⟨v, y, hc, _, htr⟩ := hF j fs[j] hfj
    obtain ⟨k, hk, hu⟩ := hks j fs[j] hfj
    obtain ⟨x, rfl, hw⟩ := trod_numW hu htr
    exact ⟨k, x, hk, hc, hw⟩
theorem field_kind {fs : Array Field} {j : Nat} {f : Field} {k : IntKind} (hf : fs[j]? = some f) (h : fs[j]?.map (fun f => Tryd.prog.underlying f.type) = some (some (.int k))) : Tryd.prog.underlying f.type = some (.int k) := by
  rw [hf] at h; simpa using h
theorem field_kinds {fs : Array Field} {ks : List IntKind} (hl : ks.length = fs.size) (h : ∀ j, j < fs.size → ∀ f k, fs[j]? = some f → ks[j]? = some k → Tryd.prog.underlying f.type = some (.int k)) :
    ∀ (j : Nat) (f : Field), fs[j]? = some f → ∃ k, ks[j]? = some k ∧ Tryd.prog.underlying f.type = some (.int k) := by
  intro j f hf
  have hj := (Array.getElem?_eq_some_iff.1 hf).1
  exact ⟨ks[j]'(by omega), List.getElem?_eq_getElem _, h j hj f _ hf (List.getElem?_eq_getElem _)⟩
theorem open_deeds {v : Value} {d : DataW H} {p : List MemPlace} (hv : Value.okWide Tryd.prog W r b0 53 v) (h : DataW.Trod enc Tryd.prog W base spare held 53 v d p) : ∃ a n c, v = .slice a n c ∧ NumsR W W.heap.size [.i64, .i64, .u64, .u64, .u64] 5 v n := by
  have e : ∀ (j : Nat) (f : Field), (Tryd.prog.fieldsOf 48)[j]? = some f → ∃ k, [IntKind.i64, .i64, .u64, .u64, .u64][j]? = some k ∧ Tryd.prog.underlying f.type = some (.int k) := by
    refine field_kinds (by kernel_rfl) (fun j hj f k hf hk => ?_)
    have hz : (Tryd.prog.fieldsOf 48).size = 5 := by kernel_rfl
    have h4 : j = 0 ∨ j = 1 ∨ j = 2 ∨ j = 3 ∨ j = 4 := by omega
    rcases h4 with rfl | rfl | rfl | rfl | rfl <;> (cases hk; exact field_kind hf (by kernel_rfl))
  exact open_structs [.i64, .i64, .u64, .u64, .u64] Tryd.underlying53 Tryd.underlying48 (by kernel_rfl) (by kernel_rfl) (by decide) e hv h
theorem array5 {α : Type} {cs : Array α} (h : cs.size = 5) : ∃ c0 c1 c2 c3 c4, cs = #[c0, c1, c2, c3, c4] := by
  obtain ⟨l⟩ := cs
  match l, h with
  | [c0, c1, c2, c3, c4], _ => exact ⟨c0, c1, c2, c3, c4, rfl⟩
theorem drop_one {α : Type} {l : List α} {j : Nat} {v : α} (h : l[j]? = some v) : (l.drop j).take 1 = [v] := by
  obtain ⟨hj, rfl⟩ := List.getElem?_eq_some_iff.1 h
  rw [List.drop_eq_getElem_cons hj]
  rfl
theorem open_deed {v : Value} {d : DataW H} {p : List MemPlace} (hv : Value.okWide Tryd.prog W r b0 48 v) (h : DataW.Trod enc Tryd.prog W base spare held 48 v d p) :
    ∃ k at_ a b by_, v = .agg #[.int .i64 k, .int .i64 at_, .int .u64 a, .int .u64 b, .int .u64 by_] := by
  obtain ⟨cs, rfl, hsz⟩ := okWide_struct Tryd.underlying48 hv
  obtain ⟨c0, c1, c2, c3, c4, rfl⟩ := array5 (hsz.trans (by kernel_rfl))
  obtain ⟨fuel, hf⟩ := h
  obtain ⟨ys, n, _, _, hlen, hyl, hF⟩ := DataW.trod_struct Tryd.underlying48 hf
  have key : ∀ (j : Nat) (u : Value) (k : IntKind), ((Tryd.prog.fieldsOf 48)[j]?.map fun f => Tryd.prog.underlying f.type) = some (some (.int k)) → [c0, c1, c2, c3, c4][j]? = some u → ∃ x, u = .int k x := by
    intro j u k hk0 hu
    obtain ⟨f, hj⟩ : ∃ f, (Tryd.prog.fieldsOf 48)[j]? = some f := by
      cases hy : (Tryd.prog.fieldsOf 48)[j]? with
      | none => rw [hy] at hk0; cases hk0
      | some f => exact ⟨f, rfl⟩
    have hk := field_kind hj hk0
    obtain ⟨ho, hc⟩ := hone_of (P := Tryd.prog) (fs := Tryd.prog.fieldsOf 48) (by kernel_rfl) j f hj
    have h1 := hF j f hj
    rw [ho, hc] at h1
    have h2 : ((Value.agg #[c0, c1, c2, c3, c4]).cells.toList.drop j).take 1 = [u] := drop_one (by simpa [Value.cells] using hu)
    rw [h2] at h1
    have hj2 : j < ys.length := by rw [hyl]; exact (Array.getElem?_eq_some_iff.1 hj).1
    rw [List.getElem?_eq_getElem hj2] at h1
    obtain ⟨x, rfl, _⟩ := trod_numW hk h1
    exact ⟨x, rfl⟩
  obtain ⟨k, rfl⟩ := key 0 c0 .i64 (by kernel_rfl) rfl
  obtain ⟨at_, rfl⟩ := key 1 c1 .i64 (by kernel_rfl) rfl
  obtain ⟨a, rfl⟩ := key 2 c2 .u64 (by kernel_rfl) rfl
  obtain ⟨b, rfl⟩ := key 3 c3 .u64 (by kernel_rfl) rfl
  obtain ⟨by_, rfl⟩ := key 4 c4 .u64 (by kernel_rfl) rfl
  exact ⟨k, at_, a, b, by_, rfl⟩
end
end Go.Proofs.YtippfkokgpdmdaaDoor
