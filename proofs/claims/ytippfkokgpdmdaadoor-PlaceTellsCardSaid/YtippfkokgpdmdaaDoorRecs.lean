/-
  Lists of records of numbers: as cells, in memory of the call's own, as they are handed in; append with the place of the new row.
-/
import Derived.Test.YtippfkokgpdmdaaDoorStructs
import Derived.Maps.AppendAt
import Derived.Deep.RegionLaw
namespace Go.Proofs.YtippfkokgpdmdaaDoor
open Go Go.RowKit
set_option linter.unusedVariables false

/-- How records of a kind lie in memory. -/
structure Rec (α : Type) where
  cells : α → List Value
  size : Nat
  len : ∀ a, (cells a).length = size
  one : ∀ a, ∀ u ∈ cells a, u.oneCell' = true
  pos : 0 < size
section
variable {α : Type} (R : Rec α)
def rcells (l : List α) : List Value := l.flatMap R.cells
theorem rcells_append (l l' : List α) : rcells R (l ++ l') = rcells R l ++ rcells R l' := by simp [rcells]
theorem rcells_one (a : α) : rcells R [a] = R.cells a := by simp [rcells]
theorem rcells_length (l : List α) : (rcells R l).length = l.length * R.size := by
  induction l with
  | nil => simp [rcells]
  | cons a l ih => rw [show rcells R (a :: l) = R.cells a ++ rcells R l by simp [rcells], List.length_append, ih, R.len, List.length_cons, Nat.add_mul, Nat.one_mul, Nat.add_comm]
theorem rcells_get (l : List α) (j : Nat) (h : j < l.length) (i : Nat) (hi : i < R.size) : (rcells R l)[j * R.size + i]? = (R.cells l[j])[i]? := by
  induction l generalizing j with
  | nil => simp at h
  | cons a l ih =>
    rw [show rcells R (a :: l) = R.cells a ++ rcells R l by simp [rcells]]
    cases j with
    | zero =>
      simp only [Nat.zero_mul, Nat.zero_add, List.getElem_cons_zero]
      rw [List.getElem?_append_left (by rw [R.len]; exact hi)]
    | succ j =>
      simp only [List.getElem_cons_succ]
      rw [List.getElem?_append_right (by rw [R.len, Nat.succ_mul]; omega), R.len]
      rw [show (j + 1) * R.size + i - R.size = j * R.size + i from by rw [Nat.succ_mul]; omega]
      exact ih j (by simpa using h)
theorem rcells_oneCell (l : List α) : ∀ u ∈ rcells R l, u.oneCell' = true := by
  intro u hu
  simp only [rcells, List.mem_flatMap] at hu
  obtain ⟨a, _, hu⟩ := hu
  exact R.one a u hu
theorem rcells_split (l : List α) (q : Nat) (hq : q < (rcells R l).length) : ∃ j i, ∃ h : j < l.length, i < R.size ∧ q = j * R.size + i ∧ (rcells R l)[q]? = (R.cells l[j])[i]? := by
  rw [rcells_length] at hq
  have h : q / R.size < l.length := Nat.div_lt_of_lt_mul (by rw [Nat.mul_comm]; exact hq)
  have hm := Nat.mod_lt q R.pos
  have e : q / R.size * R.size + q % R.size = q := by rw [Nat.mul_comm]; exact Nat.div_add_mod q R.size
  refine ⟨q / R.size, q % R.size, h, hm, e.symm, ?_⟩
  have := rcells_get R l (q / R.size) h (q % R.size) hm
  rwa [e] at this
/-- A list in a row of the call's own, which lies in block r (if anywhere). -/
def RowOf (E : TypeId) (w : World) (lo r : Nat) (v : Value) (l : List α) : Prop := w.ownsRow lo E R.size v l.length (rcells R l) ∧ ∀ k, v.ownBlock = some k → k = r
/-- A slice that reads so; its cells, if any, lie in block g. -/
structure RecB (w : World) (g : Nat) (v : Value) (l : List α) : Prop where
  ex : ∃ (a : Option Addr) (c : Nat), v = .slice a l.length c ∧ l.length ≤ c ∧ (0 < l.length → ∃ off, a = some ⟨g, off, none⟩ ∧ ∀ j (h : j < l.length) i, i < R.size → w.cell? ⟨g, off + j * R.size + i, none⟩ = (R.cells l[j])[i]?)
variable {R}
theorem Rec.some_cell (a : α) (i : Nat) (h : i < R.size) : ∃ u, (R.cells a)[i]? = some u := ⟨_, List.getElem?_eq_getElem (by rw [R.len]; exact h)⟩
section
variable {w w' : World} {g lo r : Nat} {v : Value} {l : List α} {S : Nat → Prop} {E : TypeId}
theorem RecB.mod (h : RecB R w g v l) (hm : Mod S w w') (hS : ¬ S g) : RecB R w' g v l := by
  obtain ⟨a, c, hv, hc, hx⟩ := h.ex
  refine ⟨a, c, hv, hc, fun hn => ?_⟩
  obtain ⟨off, ha, hcs⟩ := hx hn
  refine ⟨off, ha, fun j hj i hi => ?_⟩
  obtain ⟨u, hu⟩ := Rec.some_cell (R := R) l[j] i hi
  have h1 := hcs j hj i hi
  rw [hu] at h1
  rw [hm.cell (a := ⟨g, off + j * R.size + i, none⟩) (World.block_lt_of_cell? w _ h1) hS, h1, hu]
theorem RecB.below (h : RecB R w g v l) (hb : Below w.heap.size w w') : RecB R w' g v l := h.mod (Mod.of_below (S := fun _ => False) hb) id
theorem RecB.lt (h : RecB R w g v l) (hn : 0 < l.length) : g < w.heap.size := by
  obtain ⟨a, c, hv, hc, hx⟩ := h.ex
  obtain ⟨off, ha, hcs⟩ := hx hn
  obtain ⟨u, hu⟩ := Rec.some_cell (R := R) l[0] 0 R.pos
  have h1 := hcs 0 hn 0 R.pos
  rw [hu] at h1
  exact World.block_lt_of_cell? w _ h1
theorem own_cell {n c : Nat} (h : w.ownsRow lo E R.size (.slice (some ⟨g, 0, none⟩) n c) n (rcells R l)) (j : Nat) (hj : j < l.length) (i : Nat) (hi : i < R.size) : w.cell? ⟨g, j * R.size + i, none⟩ = (R.cells l[j])[i]? := by
  have h1 := World.ownsRow.cells h (g := g) rfl (j * R.size + i)
  have h2 := rcells_get R l j hj i hi
  obtain ⟨u, hu⟩ := Rec.some_cell (R := R) l[j] i hi
  rw [hu] at h2 ⊢
  have := h1 _ h2
  rwa [Addr.add_lit, Nat.zero_add] at this
theorem RecB.of_own (h : w.ownsRow lo E R.size v l.length (rcells R l)) : ∃ g, RecB R w g v l ∧ lo ≤ g := by
  rcases h.2 with ⟨rfl, h0⟩ | ⟨g, cap, cur, rfl, hb, hg, hc, hm, hs, ht⟩
  · exact ⟨lo, ⟨none, 0, by rw [h0], by omega, fun hn => by omega⟩, Nat.le_refl _⟩
  · refine ⟨g, ⟨_, cap, rfl, hc, fun hn => ⟨0, rfl, fun j hj i hi => ?_⟩⟩, hb⟩
    rw [Nat.zero_add]
    exact own_cell h j hj i hi
theorem RowOf.mod (h : RowOf R E w lo r v l) (hm : Mod S w w') (hS : ¬ S r) : RowOf R E w' lo r v l := by
  refine ⟨⟨h.1.1, ?_⟩, h.2⟩
  rcases h.1.2 with hn | ⟨q, cap, cur, rfl, h0, hh, rest⟩
  · exact .inl hn
  · refine .inr ⟨q, cap, cur, rfl, h0, ?_, rest⟩
    rw [hm.block q (Array.getElem?_eq_some_iff.1 hh).1 (by rw [h.2 q rfl]; exact hS)]
    exact hh
theorem RowOf.mod' (h : RowOf R E w lo r v l) (hm : Mod S w w') (hS : ∀ k, v.ownBlock = some k → ¬ S k) : RowOf R E w' lo r v l := by
  refine ⟨⟨h.1.1, ?_⟩, h.2⟩
  rcases h.1.2 with hn | ⟨q, cap, cur, rfl, h0, hh, rest⟩
  · exact .inl hn
  · refine .inr ⟨q, cap, cur, rfl, h0, ?_, rest⟩
    rw [hm.block q (Array.getElem?_eq_some_iff.1 hh).1 (hS q rfl)]
    exact hh
theorem RowOf.below (h : RowOf R E w lo r v l) (hb : Below w.heap.size w w') : RowOf R E w' lo r v l := h.mod (Mod.of_below (S := fun _ => False) hb) id
theorem RowOf.recB (h : RowOf R E w lo r v l) : RecB R w r v l := by
  rcases h.1.2 with ⟨rfl, h0⟩ | ⟨g, cap, cur, rfl, hb, hg, hc, hm, hs, ht⟩
  · exact ⟨none, 0, by rw [h0], by omega, fun hn => by omega⟩
  · obtain rfl : g = r := h.2 g rfl
    exact ⟨_, cap, rfl, hc, fun hn => ⟨0, rfl, fun j hj i hi => by rw [Nat.zero_add]; exact own_cell h.1 j hj i hi⟩⟩
theorem RowOf.nil (E : TypeId) (w : World) (lo r : Nat) : RowOf R E w lo r (.slice none 0 0) [] := ⟨World.ownsRow_nil _ _ _ _, fun k hk => by simp [Value.ownBlock] at hk⟩
end

set_option maxRecDepth 100000 in
theorem wp_append_rec {w : World} {o : Oper} {a : Act} {K : Act → World → Prop} {Q : Exit → Act → World → Prop} (s x : Operand) (T E : TypeId) (z : Value) (bytes : Nat)
    (ho : o.op = .call { callee := .builtin .append, args := #[s, x], argTypes := #[T, T] }) (hT : Tryd.prog.underlying T = some (.slice E)) (hi : (Tryd.prog.info? E).map (fun i => (i.zero, i.size, i.bytes)) = some (some z, R.size, bytes)) (hz : z.cells.size = R.size) (hby : bytes ≤ 1000)
    (lo r : Nat) (v : Value) (l : List α) (hs : a.eval s = v) (hD : RowOf R E w lo r v l) (y : α)
    (B : Nat) (hx : a.eval x = .slice (some ⟨B, 0, none⟩) 1 1) (hB : Blk w B (R.cells y) E) (hn : l.length ≤ 60000) (hlo : lo ≤ w.heap.size)
    (h : ∀ va vc w' r', RowOf R E w' lo r' (.slice va (l.length + 1) vc) (l ++ [y]) → w.grownBy w' v.ownBlock → (v.ownBlock = some r' ∨ r' = w.heap.size) → r' < w'.heap.size → K (a.put o.dst (.slice va (l.length + 1) vc)) w') :
    o.wp Tryd.prog a w K Q := by
  obtain ⟨i0, hi, hz0, hz1, hz2⟩ := info_parts hi
  have hb : (l.length + 1) * bytes ≤ 60001 * 1000 := Nat.mul_le_mul (by omega) hby
  obtain ⟨v', w', hr, h2, h3, _, h5⟩ := run_append_own_at (P := Tryd.prog) w lo T o.type E i0 z R.size bytes hT hi hz0 hz1 hz2 hz R.pos v l.length (rcells R l) hD.1 ⟨B, 0, none⟩ 1 1 (R.cells y) (by rw [R.len, Nat.one_mul])
    (fun j u hu => by rw [Addr.add_lit, Nat.zero_add, hB.cell]; exact hu) (R.one y) (by unfold maxLen; omega) (by omega) hlo
  obtain ⟨va, vc, rfl⟩ := owns_shape h2
  have h2' : w'.ownsRow lo E R.size (.slice va (l.length + 1) vc) (l ++ [y]).length (rcells R (l ++ [y])) := by
    rw [List.length_append, List.length_singleton, rcells_append, rcells_one]
    exact h2
  unfold Oper.wp execOp
  simp only [ho, resolve, invoke, builtin, Sem.run_bind, Sem.run_pure, Result.andThen_ok, List.map_toArray, List.map_cons, List.map_nil, hs, hx, hr]
  obtain ⟨q, hq⟩ : ∃ q, Value.ownBlock (.slice va (l.length + 1) vc) = some q := by
    rcases h2.2 with ⟨_, h0⟩ | ⟨q, cap, cur, hv, _⟩
    · omega
    · exact ⟨q, by rw [hv]; rfl⟩
  refine h va vc w' q ⟨h2', fun k hk => by rw [hq] at hk; injection hk with hk; exact hk.symm⟩ h3 ?_ ((World.ownsRow.lt h2 q hq).2)
  rcases h5 with e | e
  · rw [hq] at e; exact .inl e.symm
  · rw [hq] at e; injection e with e; exact .inr e
theorem step_append_rec {w : World} {ops : Array Oper} {o : Oper} {a : Act} {K : Act → World → Prop} {Q : Exit → Act → World → Prop} {EE : Prop} (hgd : o.guard = none) (s x : Operand) (T E : TypeId) (z : Value) (bytes : Nat)
    (ho : o.op = .call { callee := .builtin .append, args := #[s, x], argTypes := #[T, T] }) (hT : Tryd.prog.underlying T = some (.slice E)) (hi : (Tryd.prog.info? E).map (fun i => (i.zero, i.size, i.bytes)) = some (some z, R.size, bytes)) (hz : z.cells.size = R.size) (hby : bytes ≤ 1000)
    (lo r : Nat) (v : Value) (l : List α) (hs : a.eval s = v) (hD : RowOf R E w lo r v l) (y : α)
    (B : Nat) (hx : a.eval x = .slice (some ⟨B, 0, none⟩) 1 1) (hB : Blk w B (R.cells y) E) (hn : l.length ≤ 60000) (hlo : lo ≤ w.heap.size)
    (h : ∀ va vc w' r', RowOf R E w' lo r' (.slice va (l.length + 1) vc) (l ++ [y]) → w.grownBy w' v.ownBlock → (v.ownBlock = some r' ∨ r' = w.heap.size) → r' < w'.heap.size → K (a.put o.dst (.slice va (l.length + 1) vc)) w') :
    if Region.wanted o (yielded ops a.tmps) = true then Oper.wp Tryd.prog o a w K Q else EE := by
  have hw : Region.wanted o (yielded ops a.tmps) = true := by simp [Region.wanted, hgd]
  rw [if_pos hw]
  exact wp_append_rec s x T E z bytes ho hT hi hz hby lo r v l hs hD y B hx hB hn hlo h
theorem wpList_append_rec {w : World} {ops : Array Oper} {rest : List Oper} {o : Oper} {a : Act} {Q : Exit → Act → World → Prop} (hgd : o.guard = none) (s x : Operand) (T E : TypeId) (z : Value) (bytes : Nat)
    (ho : o.op = .call { callee := .builtin .append, args := #[s, x], argTypes := #[T, T] }) (hT : Tryd.prog.underlying T = some (.slice E)) (hi : (Tryd.prog.info? E).map (fun i => (i.zero, i.size, i.bytes)) = some (some z, R.size, bytes)) (hz : z.cells.size = R.size) (hby : bytes ≤ 1000)
    (lo r : Nat) (v : Value) (l : List α) (hs : a.eval s = v) (hD : RowOf R E w lo r v l) (y : α)
    (B : Nat) (hx : a.eval x = .slice (some ⟨B, 0, none⟩) 1 1) (hB : Blk w B (R.cells y) E) (hn : l.length ≤ 60000) (hlo : lo ≤ w.heap.size)
    (h : ∀ va vc w' r', RowOf R E w' lo r' (.slice va (l.length + 1) vc) (l ++ [y]) → w.grownBy w' v.ownBlock → (v.ownBlock = some r' ∨ r' = w.heap.size) → r' < w'.heap.size → wpList Tryd.prog ops Q rest (a.put o.dst (.slice va (l.length + 1) vc)) w') :
    wpList Tryd.prog ops Q (o :: rest) a w :=
  wpList_plain hgd fun _ hK => wp_append_rec s x T E z bytes ho hT hi hz hby lo r v l hs hD y B hx hB hn hlo fun va vc w' r' h1 h2 h3 h4 => hK _ _ (h va vc w' r' h1 h2 h3 h4)
end
end Go.Proofs.YtippfkokgpdmdaaDoor
