/-
  A list of deeds on slots that wait (a slot with its epoch, and whether to take) as it is handed in.
-/
import Derived.Test.YtgkobmmannkegaaLawKitW
import Derived.Test.YtgkobmmannkegaaLimboPlays
import Derived.Deep.Slices
namespace Go.Proofs.Ytgkobmmannkegaa
open Go.ChangeShapes Go.WideShapes Go.ChangeAt Go.RowKit Go.Deep
set_option linter.unusedVariables false
section
variable {H : Type} {enc : TypeId × Value → H} {W : World} {r : Reach} {b0 base : Nat} {held : Bool} {spare : Nat → Bool}
set_option maxRecDepth 100000
theorem field_here {fs : Array Field} {j : Nat} {t : TypeId} {o : Nat} (h : fs[j]?.map (fun f => (f.type, f.offset)) = some (t, o)) : ∃ f, fs[j]? = some f ∧ f.type = t ∧ f.offset = o := by
  cases e : fs[j]? with
  | none => rw [e] at h; simp at h
  | some f => rw [e] at h; simp at h; exact ⟨f, rfl, h.1, h.2⟩
theorem cells3 {cs : List Value} (h : cs.length = 3) : ∃ x y z, cs = [x, y, z] := by
  rcases cs with _ | ⟨x, _ | ⟨y, _ | ⟨z, _ | ⟨u, cs⟩⟩⟩⟩ <;> simp at h
  exact ⟨x, y, z, rfl⟩
theorem some_of_trod {t : TypeId} {n i len : Nat} {cs : List Value} {ys : List (DataW H × List MemPlace)} (h : DataW.trod enc Try.prog W base spare held n t cs = ys[i]?) (hl : ys.length = len) (hi : i < len) : ∃ y, DataW.trod enc Try.prog W base spare held n t cs = some y :=
  ⟨_, h.trans (List.getElem?_eq_getElem (by omega))⟩
theorem rop_trod {n : Nat} {cs : List Value} {x : DataW H × List MemPlace} (h : DataW.trod enc Try.prog W base spare held n 104 cs = some x) (h3 : cs.length = 3) : ∃ r e t, cs = [.int .u64 r, .int .u64 e, .bool t] ∧ (Lit.int .u64 e).wf = true := by
  obtain ⟨x0, x1, x2, rfl⟩ := cells3 h3
  obtain ⟨ys, n1, _, _, _, hl, hf⟩ := DataW.trod_struct Try.underlying104 h
  have hz : (Try.prog.fieldsOf 104).size = 2 := by kernel_rfl
  have hz2 : (Try.prog.fieldsOf 102).size = 2 := by kernel_rfl
  obtain ⟨f0, e0, t0, o0⟩ := field_here (show (Try.prog.fieldsOf 104)[0]?.map (fun f => (f.type, f.offset)) = some (102, 0) by kernel_rfl)
  obtain ⟨f1, e1, t1, o1⟩ := field_here (show (Try.prog.fieldsOf 104)[1]?.map (fun f => (f.type, f.offset)) = some (4, 2) by kernel_rfl)
  have g0 := hf 0 f0 e0
  have g1 := hf 1 f1 e1
  rw [t0, o0, show Try.prog.cellsOf 102 = 2 by kernel_rfl] at g0
  rw [t1, o1, show Try.prog.cellsOf 4 = 1 by kernel_rfl] at g1
  obtain ⟨y0, k0⟩ := some_of_trod g0 (hl.trans hz) (by omega)
  obtain ⟨y1, k1⟩ := some_of_trod g1 (hl.trans hz) (by omega)
  simp only [List.drop_zero, List.take_succ_cons, List.take_zero, List.drop_succ_cons] at k0 k1
  obtain ⟨zs, n2, _, _, _, hl2, hf2⟩ := DataW.trod_struct Try.underlying102 k0
  obtain ⟨f2, e2, t2, o2⟩ := field_here (show (Try.prog.fieldsOf 102)[0]?.map (fun f => (f.type, f.offset)) = some (22, 0) by kernel_rfl)
  obtain ⟨f3, e3, t3, o3⟩ := field_here (show (Try.prog.fieldsOf 102)[1]?.map (fun f => (f.type, f.offset)) = some (22, 1) by kernel_rfl)
  have g2 := hf2 0 f2 e2
  have g3 := hf2 1 f3 e3
  rw [t2, o2, show Try.prog.cellsOf 22 = 1 by kernel_rfl] at g2
  rw [t3, o3, show Try.prog.cellsOf 22 = 1 by kernel_rfl] at g3
  obtain ⟨y2, k2⟩ := some_of_trod g2 (hl2.trans hz2) (by omega)
  obtain ⟨y3, k3⟩ := some_of_trod g3 (hl2.trans hz2) (by omega)
  simp only [List.drop_zero, List.take_succ_cons, List.take_zero, List.drop_succ_cons] at k2 k3
  obtain ⟨r, rfl, _⟩ := trod_numW Try.underlying22 k2
  obtain ⟨e, rfl, he⟩ := trod_numW Try.underlying22 k3
  obtain ⟨b, hb, _⟩ := DataW.trod_bool Try.underlying4 k1
  simp only [List.cons.injEq, and_true] at hb
  subst hb
  exact ⟨r, e, b, rfl, he⟩
theorem rops_of (w : World) (a : Addr) (c n : Nat) (h : ∀ i, i < n → ∃ (r e : Int) (t : Bool), w.cell? (a.add (i * 3)) = some (.int .u64 r) ∧ w.cell? (a.add (i * 3 + 1)) = some (.int .u64 e) ∧ w.cell? (a.add (i * 3 + 2)) = some (.bool t) ∧ (Lit.int .u64 e).wf = true) :
    RopsR w w.heap.size (.slice (some a) n c) n := by
  refine ⟨some a, c, rfl, fun hn => ?_⟩
  obtain ⟨b, off, spot⟩ := a
  obtain ⟨_, _, _, c0, _⟩ := h 0 hn
  rw [show Addr.add ⟨b, off, spot⟩ (0 * 3) = ⟨b, off, spot⟩ by simp [Addr.add]] at c0
  have hs : spot = none := by
    cases spot with
    | none => rfl
    | some s =>
      unfold World.cell? at c0
      split at c0 <;> simp at c0
  subst hs
  refine ⟨b, off, rfl, World.block_lt_of_cell? w _ c0, fun i hi => ?_⟩
  obtain ⟨x, e, t, h0, h1, h2, hw⟩ := h i hi
  rw [Addr.add_lit] at h0 h1 h2
  have := bounds_u64 hw
  exact ⟨x, e, t, h0, h1, h2, by omega, by omega⟩
theorem open_rops {v : Value} {d : DataW H} {p : List MemPlace} (hv : Value.okWide Try.prog W r b0 97 v) (h : DataW.Trod enc Try.prog W base spare held 97 v d p) : ∃ a n c, v = .slice a n c ∧ RopsR W W.heap.size v n := by
  obtain ⟨a, n, c, rfl⟩ := okWide_slice Try.underlying97 hv
  refine ⟨a, n, c, rfl, ?_⟩
  obtain ⟨fuel, hf⟩ := h
  rcases open_slice Try.underlying97 hf with ⟨h1, _⟩ | ⟨a', len, cap, m, nf, D, Pl, h1, hb, hl, hcm, hm, _, hi⟩
  · simp only [Value.cells, List.cons.injEq, Value.slice.injEq] at h1
    obtain ⟨⟨rfl, rfl, rfl⟩, _⟩ := h1
    exact ⟨none, 0, rfl, fun h0 => absurd h0 (by omega)⟩
  · simp only [Value.cells, List.cons.injEq, Value.slice.injEq] at h1
    obtain ⟨⟨rfl, rfl, rfl⟩, _⟩ := h1
    have hnm : n ≤ m := by rw [hm]; split <;> omega
    refine rops_of W a' c n (fun i hi' => ?_)
    obtain ⟨cs, hc, ht⟩ := hi i (by omega)
    rw [show Try.prog.cellsOf 104 = 3 by kernel_rfl] at hc
    obtain ⟨_, hlen, hat⟩ := World.cells?_some hc
    obtain ⟨x, e, t, rfl, he⟩ := rop_trod ht hlen
    have a0 := hat 0 (by omega)
    have a1 := hat 1 (by omega)
    have a2 := hat 2 (by omega)
    rw [Go.Deep.add_add] at a0 a1 a2
    exact ⟨x, e, t, a0, a1, a2, he⟩
end
end Go.Proofs.Ytgkobmmannkegaa
