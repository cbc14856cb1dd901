/-
  A slice of numbers of the call's own, at any place of its block, with room behind it: append, and slices of it.
-/
import Derived.Test.YtgkobmmannkegaaNats
import Derived.ArgAppend
namespace Go.Proofs.Ytgkobmmannkegaa
open Go Go.RowKit
set_option linter.unusedVariables false

theorem info3v : (Try.prog.info? 3).map (fun i => (i.zero, i.size, i.bytes)) = some (some (.int .i64 0), 1, 8) := by kernel_rfl
abbrev natV (l : List Nat) : List Value := l.map fun x : Nat => Value.int .i64 (x : Int)
/-- The block in which a slice has cells. -/
def sblk : Value → Option Nat
  | .slice (some a) _ (_ + 1) => some a.block
  | _ => none
structure NS (w : World) (v : Value) (l : List Nat) : Prop where
  ex : ∃ (a : Option Addr) (c : Nat), v = .slice a l.length c ∧ l.length ≤ c ∧ (0 < c → ∃ g off, a = some ⟨g, off, none⟩ ∧ g < w.heap.size ∧ (∀ j, j < c → (w.cell? ⟨g, off + j, none⟩).isSome = true ∧ w.frozen? ⟨g, off + j, none⟩ = false) ∧
    ∀ j (h : j < l.length), w.cell? ⟨g, off + j, none⟩ = some (.int .i64 (l[j] : Int)))
section
variable {w w' : World} {v : Value} {l : List Nat} {S : Nat → Prop}
theorem sblk_some {a : Addr} {n c : Nat} (h : 0 < c) : sblk (.slice (some a) n c) = some a.block := by
  obtain ⟨c, rfl⟩ : ∃ q, c = q + 1 := ⟨c - 1, by omega⟩
  rfl
theorem sblk_n (a : Option Addr) (n m c : Nat) : sblk (.slice a n c) = sblk (.slice a m c) := by
  cases a with
  | none => rfl
  | some a => cases c <;> rfl
theorem NS.nil (w : World) : NS w (.slice none 0 0) [] := ⟨none, 0, rfl, Nat.le_refl _, fun h => by omega⟩
theorem NS.mod (h : NS w v l) (hm : Mod S w w') (hS : ∀ k, sblk v = some k → ¬ S k) : NS w' v l := by
  obtain ⟨a, c, rfl, hc, hx⟩ := h.ex
  refine ⟨a, c, rfl, hc, fun h0 => ?_⟩
  obtain ⟨g, off, rfl, hg, h1, h2⟩ := hx h0
  have hn := hS g (sblk_some h0)
  refine ⟨g, off, rfl, Nat.lt_of_lt_of_le hg hm.size, fun j hj => ?_, fun j hj => ?_⟩
  · rw [hm.cell (a := ⟨g, off + j, none⟩) hg hn, hm.frozen (a := ⟨g, off + j, none⟩) hg hn]; exact h1 j hj
  · rw [hm.cell (a := ⟨g, off + j, none⟩) hg hn]; exact h2 j hj
theorem NS.below (h : NS w v l) (hb : Below w.heap.size w w') : NS w' v l := h.mod (Mod.of_below (S := fun _ => False) hb) (fun _ _ => id)
theorem NS.lt (h : NS w v l) {k : Nat} (hk : sblk v = some k) : k < w.heap.size := by
  obtain ⟨a, c, rfl, hc, hx⟩ := h.ex
  rcases Nat.eq_zero_or_pos c with h0 | h0
  · subst h0
    cases a <;> simp [sblk] at hk
  · obtain ⟨g, off, rfl, hg, _⟩ := hx h0
    rw [sblk_some h0] at hk
    injection hk with hk
    exact hk ▸ hg
theorem NS.of_own {lo n : Nat} (h : w.ownsRow lo 3 1 v n (natV l)) : NS w v l ∧ ∀ k, sblk v = some k → lo ≤ k := by
  have hn : l.length = n := by have := h.1; simpa using this
  subst hn
  rcases h.2 with ⟨rfl, h0⟩ | ⟨g, cap, cur, rfl, hb, hg, hc, hm, hs, ht⟩
  · have : l = [] := List.eq_nil_of_length_eq_zero h0
    subst this
    exact ⟨NS.nil w, fun k hk => by simp [sblk] at hk⟩
  · refine ⟨⟨_, cap, rfl, hc, fun h0 => ⟨g, 0, rfl, (Array.getElem?_eq_some_iff.1 hg).1, fun j hj => ?_, fun j hj => ?_⟩⟩, fun k hk => ?_⟩
    · have hj2 : j < cur.size := by omega
      simp [World.cell?, World.frozen?, hg, hj2]
    · have h1 : cur[j]? = some (.int .i64 (l[j] : Int)) := by
        have h2 : (natV l)[j]? = some (.int .i64 (l[j] : Int)) := by simp [natV, hj]
        rw [← ht, List.getElem?_take] at h2
        rw [if_pos (by omega)] at h2
        simpa using h2
      simp [World.cell?, hg, h1]
    · rcases Nat.eq_zero_or_pos cap with h0 | h0
      · subst h0; simp [sblk] at hk
      · rw [sblk_some h0] at hk; injection hk with hk; exact hk ▸ hb
/-- Without the last one. -/
theorem NS.init {a : Option Addr} {c : Nat} {x : Nat} (h : NS w (.slice a (l.length + 1) c) (l ++ [x])) : NS w (.slice a l.length c) l ∧ (∃ g off, a = some ⟨g, off, none⟩ ∧ w.cell? ⟨g, off + l.length, none⟩ = some (.int .i64 (x : Int))) ∧ l.length + 1 ≤ c := by
  obtain ⟨a', c', hv, hc, hx⟩ := h.ex
  rw [List.length_append, List.length_singleton] at hc hv
  cases hv
  obtain ⟨g, off, rfl, hg, h1, h2⟩ := hx (by omega)
  refine ⟨⟨_, c, rfl, by omega, fun _ => ⟨g, off, rfl, hg, h1, fun j hj => ?_⟩⟩, ⟨g, off, rfl, ?_⟩, hc⟩
  · have := h2 j (by simp; omega)
    rw [List.getElem_append_left hj] at this
    exact this
  · have := h2 l.length (by simp)
    rw [List.getElem_append_right (by omega)] at this
    simpa using this
/-- Without the first one. -/
theorem NS.tail {g off c : Nat} {x : Nat} (h : NS w (.slice (some ⟨g, off, none⟩) (l.length + 1) c) (x :: l)) (hc : 2 ≤ c) : NS w (.slice (some ⟨g, off + 1, none⟩) l.length (c - 1)) l := by
  obtain ⟨a', c', hv, hc', hx⟩ := h.ex
  cases hv
  rw [List.length_cons] at hc'
  obtain ⟨g', off', he, hg, h1, h2⟩ := hx (by omega)
  cases he
  refine ⟨_, _, rfl, by omega, fun _ => ⟨g, off + 1, rfl, hg, fun j hj => ?_, fun j hj => ?_⟩⟩
  · have := h1 (j + 1) (by omega)
    rw [show off + 1 + j = off + (j + 1) by omega]; exact this
  · have := h2 (j + 1) (by simp; omega)
    rw [show off + 1 + j = off + (j + 1) by omega]; simpa using this
theorem NS.head {a : Option Addr} {c : Nat} {x : Nat} (h : NS w (.slice a (l.length + 1) c) (x :: l)) : (∃ g off, a = some ⟨g, off, none⟩ ∧ w.cell? ⟨g, off, none⟩ = some (.int .i64 (x : Int))) ∧ l.length + 1 ≤ c := by
  obtain ⟨a', c', hv, hc, hx⟩ := h.ex
  cases hv
  rw [List.length_cons] at hc
  obtain ⟨g, off, rfl, hg, h1, h2⟩ := hx (by omega)
  exact ⟨⟨g, off, rfl, by have := h2 0 (by simp); simpa using this⟩, hc⟩
theorem run_append_ns (h : NS w v l) (y B : Nat) (ty : TypeId) (hB : Blk w B [.int .i64 (y : Int)] 3) (hn : l.length ≤ 60000) :
    ∃ v' w', (Builtin.append_ #[49, 49] ty #[v, .slice (some ⟨B, 0, none⟩) 1 1]).run Try.prog w = .ok v' w' ∧ NS w' v' (l ++ [y]) ∧ Mod (fun k => sblk v = some k) w w' ∧ (sblk v' = sblk v ∨ ∃ k, sblk v' = some k ∧ w.heap.size ≤ k) := by
  obtain ⟨i0, hi, hz0, hz1, hz2⟩ := info_parts info3v
  have hz1' : i0.size = 1 := hz1
  have hnews : ∀ j u, [Value.int .i64 (y : Int)][j]? = some u → w.cell? (Addr.add ⟨B, 0, none⟩ j) = some u := fun j u hu => by rw [Addr.add_lit, Nat.zero_add, hB.cell]; exact hu
  have h1 : ∀ u ∈ [Value.int .i64 (y : Int)], u.oneCell' = true := by intro u hu; simp at hu; subst hu; rfl
  obtain ⟨a, c, rfl, hc, hx⟩ := h.ex
  have hmap : natV (l ++ [y]) = natV l ++ [Value.int .i64 (y : Int)] := by simp
  by_cases hroom : l.length + 1 ≤ c
  · obtain ⟨g, off, rfl, hg, k1, k2⟩ := hx (by omega)
    have hr := run_append_room_cells (P := Try.prog) w 49 ty 3 i0 Try.underlying49 hi g off l.length c ⟨B, 0, none⟩ 1 1 [.int .i64 (y : Int)] (by rw [hz1']; rfl) hnews h1 hroom
      (fun j hj => by rw [hz1', Nat.mul_one]; have hj' : j = 0 := by simp at hj; omega
                      subst hj'; exact (k1 l.length (by omega)).1)
      (fun j hj => by rw [hz1', Nat.mul_one]; have hj' : j = 0 := by simp at hj; omega
                      subst hj'; exact (k1 l.length (by omega)).2)
    rw [hz1', Nat.mul_one] at hr
    have hs : w.setCells g (off + l.length) [.int .i64 (y : Int)] = w.setCell ⟨g, off + l.length, none⟩ (.int .i64 (y : Int)) := rfl
    rw [hs] at hr
    have hsb := sblk_some (a := ⟨g, off, none⟩) (n := l.length) (show 0 < c by omega)
    refine ⟨_, _, hr, ?_, ?_, .inl (by rw [sblk_some (by omega), hsb])⟩
    · refine ⟨_, c, by rw [List.length_append]; rfl, by simp; omega, fun _ => ⟨g, off, rfl, by simpa using hg, fun j hj => ?_, fun j hj => ?_⟩⟩
      · obtain ⟨q1, q2⟩ := k1 j hj
        obtain ⟨u, hu⟩ := Option.isSome_iff_exists.1 q1
        refine ⟨?_, by rw [World.frozen?_setCell]; exact q2⟩
        obtain ⟨u', hu'⟩ := cell?_setCell_some (w := w) (p := ⟨g, off + l.length, none⟩) (x := .int .i64 (y : Int)) (q := ⟨g, off + j, none⟩) (v := u) hu
        rw [hu']; rfl
      · by_cases hj2 : j < l.length
        · rw [List.getElem_append_left hj2, World.cell?_setCell_other _ _ _ _ (fun e => by injection e with _ e _; omega)]
          exact k2 j hj2
        · have hj3 : j = l.length := by simp at hj; omega
          subst hj3
          obtain ⟨u, hu⟩ := Option.isSome_iff_exists.1 (k1 l.length (by omega)).1
          rw [World.cell?_setCell_same _ _ _ hu]
          simp
    · exact (Mod.refl _ _).setCell (a := ⟨g, off + l.length, none⟩) (fun _ => hsb) _
  · have hcl : c = l.length := by omega
    subst hcl
    have fin : ∀ v' w', w'.ownsRow w.heap.size 3 1 v' (l.length + 1) (natV l ++ [Value.int .i64 (y : Int)]) → w.grownBy w' none →
        NS w' v' (l ++ [y]) ∧ Mod (fun k => sblk (.slice a l.length l.length) = some k) w w' ∧ (sblk v' = sblk (.slice a l.length l.length) ∨ ∃ k, sblk v' = some k ∧ w.heap.size ≤ k) := fun v' w' ho hg => by
      rw [← hmap] at ho
      obtain ⟨q1, q2⟩ := NS.of_own ho
      refine ⟨q1, (Mod.refl _ _).grown hg (fun k hk => by cases hk), .inr ?_⟩
      obtain ⟨a', c', rfl, hc', hx'⟩ := q1.ex
      have h0 : 0 < c' := by simp at hc'; omega
      obtain ⟨g', off', rfl, _⟩ := hx' h0
      exact ⟨g', sblk_some h0, q2 g' (sblk_some h0)⟩
    cases a with
    | none =>
      have hl : l = [] := by
        rcases Nat.eq_zero_or_pos l.length with h0 | h0
        · exact List.eq_nil_of_length_eq_zero h0
        · obtain ⟨_, _, e, _⟩ := hx h0; cases e
      subst hl
      obtain ⟨v', w', hr, ho, hg, _⟩ := run_append_own (P := Try.prog) w w.heap.size 49 ty 3 i0 (.int .i64 0) 1 8 Try.underlying49 hi hz0 hz1 hz2 rfl (by decide) (.slice none 0 0) 0 [] (World.ownsRow_nil _ _ _ _) ⟨B, 0, none⟩ 1 1 [.int .i64 (y : Int)] rfl hnews h1 (by unfold maxLen; omega) (by omega) (Nat.le_refl _)
      exact ⟨v', w', hr, fin v' w' ho hg⟩
    | some b =>
      obtain ⟨v', w', hr, ho, hg⟩ := run_append_arg_grows (P := Try.prog) w 49 ty 3 i0 (.int .i64 0) 1 8 Try.underlying49 hi hz0 hz1 hz2 rfl (by decide) b l.length l.length (natV l) (by simp)
        (fun j u hu => by
          have hj : j < l.length := by have := (List.getElem?_eq_some_iff.1 hu).1; simpa using this
          obtain ⟨g, off, e, _, _, k2⟩ := hx (by omega)
          cases e
          rw [Addr.add_lit, k2 j hj]
          simpa [hj] using hu)
        ⟨B, 0, none⟩ 1 1 [.int .i64 (y : Int)] rfl hnews (by omega) (by unfold maxLen; omega) (by omega)
      exact ⟨v', w', hr, fin v' w' ho hg⟩
theorem wpList_append_ns {ops : Array Oper} {rest : List Oper} {o : Oper} {a : Act} {Q : Exit → Act → World → Prop} (hgd : o.guard = none) (s x : Operand)
    (ho : o.op = .call { callee := .builtin .append, args := #[s, x], argTypes := #[49, 49] }) (v : Value) (l : List Nat) (hs : a.eval s = v) (hD : NS w v l) (y : Nat)
    (B : Nat) (hx : a.eval x = .slice (some ⟨B, 0, none⟩) 1 1) (hB : Blk w B [.int .i64 (y : Int)] 3) (hn : l.length ≤ 60000)
    (h : ∀ va vc w', NS w' (.slice va (l.length + 1) vc) (l ++ [y]) → Mod (fun k => sblk v = some k) w w' → (sblk (.slice va (l.length + 1) vc) = sblk v ∨ ∃ k, sblk (.slice va (l.length + 1) vc) = some k ∧ w.heap.size ≤ k) → wpList Try.prog ops Q rest (a.put o.dst (.slice va (l.length + 1) vc)) w') :
    wpList Try.prog ops Q (o :: rest) a w := by
  refine wpList_plain hgd fun _ hK => ?_
  obtain ⟨v', w', hr, h2, h3, h4⟩ := run_append_ns hD y B o.type hB hn
  obtain ⟨va, vc, hv, _⟩ := h2.ex
  rw [List.length_append, List.length_singleton] at hv
  subst hv
  unfold Oper.wp execOp
  simp only [ho, resolve, invoke, builtin, Sem.run_bind, Sem.run_pure, Result.andThen_ok, List.map_toArray, List.map_cons, List.map_nil, hs, hx, hr]
  exact hK _ _ (h va vc w' h2 h3 h4)
end
end Go.Proofs.Ytgkobmmannkegaa
