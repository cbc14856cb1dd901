/-
  Deeds as plain data; the document's tape (sundialref11.Tape): its Do, Load, Store, Swap, as plain functions on what was handed in, the deeds so far, and whether it has stopped.
-/
import Derived.Test.YtippfkokgpdmdaaDoorProg
import Derived.Test.YtippfkokgpdmdaaDoorLib
namespace Go.Proofs.YtippfkokgpdmdaaDoor
set_option linter.unusedVariables false
open Go Go.RowKit

theorem ret_bool {a b : Bool} (h : a = b) : Ending.returned (.bool a) = .returned (.bool b) := by rw [h]
structure D where
  k : Int
  at_ : Int
  a : Int
  b : Int
  by_ : Int
  deriving DecidableEq
def D.cells (d : D) : List Value := [.int .i64 d.k, .int .i64 d.at_, .int .u64 d.a, .int .u64 d.b, .int .u64 d.by_]
abbrev D.val (d : D) : Value := .agg #[.int .i64 d.k, .int .i64 d.at_, .int .u64 d.a, .int .u64 d.b, .int .u64 d.by_]
def dcells : List D → List Value
  | [] => []
  | d :: l => d.cells ++ dcells l
theorem dcells_append (l l' : List D) : dcells (l ++ l') = dcells l ++ dcells l' := by
  induction l with
  | nil => rfl
  | cons d l ih => simp [dcells, ih]
theorem dcells_length (l : List D) : (dcells l).length = l.length * 5 := by
  induction l with
  | nil => rfl
  | cons d l ih => simp only [dcells, List.length_append, ih, List.length_cons, D.cells, List.length_nil]; omega
theorem dcells_one (d : D) : dcells [d] = d.cells := by simp [dcells]
theorem dcells_get (l : List D) (j : Nat) (h : j < l.length) (i : Nat) (hi : i < 5) : (dcells l)[j * 5 + i]? = (l[j]).cells[i]? := by
  induction l generalizing j with
  | nil => simp at h
  | cons d l ih =>
    cases j with
    | zero =>
      simp only [dcells, Nat.zero_mul, Nat.zero_add, List.getElem_cons_zero]
      rw [List.getElem?_append_left (by simp [D.cells]; omega)]
    | succ j =>
      simp only [dcells, List.getElem_cons_succ]
      rw [List.getElem?_append_right (by simp [D.cells]; omega)]
      rw [show (j + 1) * 5 + i - d.cells.length = j * 5 + i from by simp [D.cells]; omega]
      exact ih j (by simpa using h)

theorem oneCell_dcells (l : List D) : ∀ u ∈ dcells l, u.oneCell' = true := by
  induction l with
  | nil => intro u hu; cases hu
  | cons d l ih =>
    intro u hu
    simp only [dcells, List.mem_append, D.cells] at hu
    rcases hu with hu | hu
    · simp only [List.mem_cons, List.not_mem_nil, or_false] at hu
      rcases hu with rfl | rfl | rfl | rfl | rfl <;> rfl
    · exact ih u hu

theorem und31 : Tryd.prog.underlying 48 = some (.struct (Tryd.prog.fieldsOf 48)) := by kernel_rfl
theorem stood31 : Tryd.prog.stoodInHeld 48 = false := by kernel_rfl
@[go_sem] theorem eqg31 : Tryd.prog.eqGuardType Tryd.prog.depth 48 = false := by kernel_rfl
def deedEq (k at_ a b by_ k' at' a' b' by' : Int) : Bool := k == k' && (at_ == at' && (a == a' && (b == b' && by_ == by')))
theorem D.beq (x y : D) : deedEq x.k x.at_ x.a x.b x.by_ y.k y.at_ y.a y.b y.by_ = decide (x = y) := by
  cases x; cases y
  rw [Bool.eq_iff_iff]
  simp [deedEq]
theorem eqIn_deed (k at_ a b by_ k' at' a' b' by' : Int) (w : World) :
    (Op.equalIn 10000 48 (.agg #[.int .i64 k, .int .i64 at_, .int .u64 a, .int .u64 b, .int .u64 by_]) (.agg #[.int .i64 k', .int .i64 at', .int .u64 a', .int .u64 b', .int .u64 by'])).run Tryd.prog w = .ok (deedEq k at_ a b by_ k' at' a' b' by') w := by
  rw [run_equalIn_struct w 9999 48 _ _ und31 stood31, deedEq]
  simp only [Program.fieldsOf, Tryd.underlying48]
  simp [Op.eqFields, go_sem]
  (repeat' split) <;> simp_all

@[go_sem ↓] theorem run_eql_deed (k at_ a b by_ k' at' a' b' by' : Int) (w : World) :
    (binOp .eql 48 (.agg #[.int .i64 k, .int .i64 at_, .int .u64 a, .int .u64 b, .int .u64 by_]) (.agg #[.int .i64 k', .int .i64 at', .int .u64 a', .int .u64 b', .int .u64 by'])).run Tryd.prog w = .ok (.bool (deedEq k at_ a b by_ k' at' a' b' by')) w := by
  rw [run_eql_struct, eqIn_deed]; rfl
@[go_sem ↓] theorem run_neq_deed (k at_ a b by_ k' at' a' b' by' : Int) (w : World) :
    (binOp .neq 48 (.agg #[.int .i64 k, .int .i64 at_, .int .u64 a, .int .u64 b, .int .u64 by_]) (.agg #[.int .i64 k', .int .i64 at', .int .u64 a', .int .u64 b', .int .u64 by'])).run Tryd.prog w = .ok (.bool (!deedEq k at_ a b by_ k' at' a' b' by')) w := by
  rw [run_neq_struct, eqIn_deed]; rfl

/-- A slice of numbers (uint64) that reads so; its cells lie below block hi. -/
structure U64s (w : World) (hi : Nat) (v : Value) (ins : List Int) : Prop where
  ex : ∃ (a : Option Addr) (cap : Nat), v = .slice a ins.length cap ∧ (0 < ins.length → ∃ b off, a = some ⟨b, off, none⟩ ∧ b < hi ∧ ∀ j (h : j < ins.length), w.cell? ⟨b, off + j, none⟩ = some (.int .u64 ins[j]))
theorem U64s.mod {w w' : World} {hi : Nat} {v : Value} {ins : List Int} {S : Nat → Prop} (h : U64s w hi v ins) (hm : Mod S w w') (hS : ∀ k, k < hi → ¬ S k) : U64s w' hi v ins := by
  obtain ⟨a, cap, hv, hc⟩ := h.ex
  refine ⟨a, cap, hv, fun h0 => ?_⟩
  obtain ⟨b, off, ha, hb, hcs⟩ := hc h0
  refine ⟨b, off, ha, hb, fun j hj => ?_⟩
  rw [← hcs j hj]
  exact hm.cell (a := ⟨b, off + j, none⟩) (World.block_lt_of_cell? w _ (hcs j hj)) (hS b hb)
theorem U64s.below {w w' : World} {hi : Nat} {v : Value} {ins : List Int} (h : U64s w hi v ins) (hm : Below w.heap.size w w') : U64s w' hi v ins := h.mod (Mod.of_below (S := fun _ => False) hm) (fun _ _ => id)
theorem U64s.mono {w : World} {hi hi' : Nat} {v : Value} {ins : List Int} (h : U64s w hi v ins) (hh : hi ≤ hi') : U64s w hi' v ins := by
  obtain ⟨a, cap, hv, hc⟩ := h.ex
  exact ⟨a, cap, hv, fun h0 => let ⟨b, off, ha, hb, hcs⟩ := hc h0; ⟨b, off, ha, Nat.lt_of_lt_of_le hb hh, hcs⟩⟩

/-- A list of deeds in memory of the call's own, from block lo on. -/
abbrev Deeds (w : World) (lo : Nat) (v : Value) (ds : List D) : Prop := w.ownsRow lo 48 5 v ds.length (dcells ds)
theorem ownsRow_mod {w w' : World} {lo : Nat} {e : TypeId} {size : Nat} {v : Value} {n : Nat} {xs : List Value} {S : Nat → Prop} (h : w.ownsRow lo e size v n xs) (hm : Mod S w w') (hS : ∀ k, lo ≤ k → ¬ S k) : w'.ownsRow lo e size v n xs := by
  refine ⟨h.1, ?_⟩
  rcases h.2 with hn | ⟨g, cap, cur, hv, hg, hgg, rest⟩
  · exact .inl hn
  · exact .inr ⟨g, cap, cur, hv, hg, by rw [hm.block g (Array.getElem?_eq_some_iff.1 hgg).1 (hS g hg)]; exact hgg, rest⟩

/-- An element's cells, in the world. -/
theorem deeds_cell {w : World} {lo : Nat} {g c n : Nat} {ds : List D} (h : Deeds w lo (.slice (some ⟨g, 0, none⟩) n c) ds) (j : Nat) (hj : j < ds.length) (i : Nat) (hi : i < 5) : w.cell? ⟨g, j * 5 + i, none⟩ = (ds[j]).cells[i]? := by
  have h1 := World.ownsRow.cells h (g := g) rfl (j * 5 + i)
  have h2 := dcells_get ds j hj i hi
  have h3 : (ds[j]).cells[i]? = some ((ds[j]).cells[i]'(by simp [D.cells]; omega)) := List.getElem?_eq_getElem _
  rw [h3] at h2 ⊢
  have := h1 _ h2
  rwa [Addr.add_lit, Nat.zero_add] at this
/-- The five cells of an element, in a later world. -/
theorem deeds_five {w wr : World} {lo : Nat} {g c n : Nat} {ds : List D} (h : Deeds w lo (.slice (some ⟨g, 0, none⟩) n c) ds) (hb : Below w.heap.size w wr) (j : Nat) (hj : j < ds.length) :
    wr.cell? ⟨g, j * 5, none⟩ = some (.int .i64 (ds[j]).k) ∧ wr.cell? ⟨g, j * 5 + 1, none⟩ = some (.int .i64 (ds[j]).at_) ∧ wr.cell? ⟨g, j * 5 + 2, none⟩ = some (.int .u64 (ds[j]).a) ∧
    wr.cell? ⟨g, j * 5 + 3, none⟩ = some (.int .u64 (ds[j]).b) ∧ wr.cell? ⟨g, j * 5 + 4, none⟩ = some (.int .u64 (ds[j]).by_) := by
  have hg : g < w.heap.size := (World.ownsRow.lt h g rfl).2
  have hc := fun i hi => (hb.cell (p := ⟨g, j * 5 + i, none⟩) hg).trans (deeds_cell h j hj i hi)
  exact ⟨hc 0 (by omega), hc 1 (by omega), hc 2 (by omega), hc 3 (by omega), hc 4 (by omega)⟩
theorem deeds_some {w : World} {lo : Nat} {v : Value} {ds : List D} (h : Deeds w lo v ds) (h0 : 0 < ds.length) : ∃ g c, v = .slice (some ⟨g, 0, none⟩) ds.length c := by
  rcases h.2 with ⟨_, hn⟩ | ⟨g, cap, cur, hv, _⟩
  · omega
  · exact ⟨g, cap, hv⟩
theorem deeds_below {w w' : World} {lo : Nat} {v : Value} {ds : List D} (h : Deeds w lo v ds) (hb : Below w.heap.size w w') : Deeds w' lo v ds := ownsRow_mod h (Mod.of_below (S := fun _ => False) hb) (fun _ _ => id)

/-! ### The tape -/
structure TapeS where
  out : List D
  stop : Bool
/-- (*sundialref11.Tape).Do, as a plain function. -/
def tdo (ins : List Int) (s : TapeS) (d : D) : Int × TapeS :=
  if s.stop then (0, s)
  else if s.out.length < ins.length then (ins.getD s.out.length 0, ⟨s.out ++ [d], false⟩)
  else (0, ⟨s.out ++ [d], true⟩)

/-- What may turn when a tape is used. -/
def TapeMod (x lo : Nat) (k : Nat) : Prop := k = x ∨ lo ≤ k

theorem info31 : (Tryd.prog.info? 48).map (fun i => (i.zero, i.size, i.bytes)) = some (some (.agg #[.int .i64 0, .int .i64 0, .int .u64 0, .int .u64 0, .int .u64 0]), 5, 40) := by kernel_rfl

theorem append_deed {w : World} {ops : Array Oper} {rest : List Oper} {o : Oper} {a : Act} {Q : Exit → Act → World → Prop} (hgd : o.guard = none) (s x : Operand)
    (ho : o.op = .call { callee := .builtin .append, args := #[s, x], argTypes := #[53, 53] }) (lo : Nat) (v : Value) (ds : List D) (hs : a.eval s = v) (hD : Deeds w lo v ds) (d : D)
    (B : Nat) (hx : a.eval x = .slice (some ⟨B, 0, none⟩) 1 1) (hB : Blk w B d.cells 48) (hn : ds.length ≤ 65000) (hlo : lo ≤ w.heap.size)
    (h : ∀ va vc w', Deeds w' lo (.slice va (ds.length + 1) vc) (ds ++ [d]) → w.grownBy w' v.ownBlock → wpList Tryd.prog ops Q rest (a.put o.dst (.slice va (ds.length + 1) vc)) w') : wpList Tryd.prog ops Q (o :: rest) a w := by
  refine append_one hgd s x 53 ho lo 48 _ 5 40 Tryd.underlying53 info31 rfl (by decide) v ds.length (dcells ds) hs hD B 48 d.cells hx hB rfl ?_ hn (by omega) hlo (fun va vc w' h2 h3 => h va vc w' ?_ h3)
  · have := oneCell_dcells [d]
    rwa [dcells_one] at this
  · unfold Deeds
    rw [dcells_append, dcells_one, List.length_append]
    exact h2

theorem ret_u64 {a b : Int} (h : a = b) : Ending.returned (.int .u64 a) = .returned (.int .u64 b) := by rw [h]

theorem tdo_len (ins : List Int) (s : TapeS) (d : D) : (tdo ins s d).2.out.length ≤ s.out.length + 1 := by
  unfold tdo
  split
  · simp
  · split <;> simp

section
variable {x lo : Nat} {inV : Value} {ins : List Int} {s : TapeS} {w : World}
def tswap (ins : List Int) (s : TapeS) (at_ old v by_ : Int) : Bool := (tdo ins s ⟨3, at_, old, v, by_⟩).1 == old && !(tdo ins s ⟨3, at_, old, v, by_⟩).2.stop
end

section
variable {x lo : Nat} {inV : Value} {ins : List Int} {s : TapeS} {w : World}
end

theorem ownsRow_lower {w : World} {lo lo' : Nat} {e : TypeId} {size : Nat} {v : Value} {n : Nat} {xs : List Value} (h : w.ownsRow lo e size v n xs) (hl : lo' ≤ lo) : w.ownsRow lo' e size v n xs := by
  refine ⟨h.1, ?_⟩
  rcases h.2 with hn | ⟨g, cap, cur, hv, hg, rest⟩
  · exact .inl hn
  · exact .inr ⟨g, cap, cur, hv, Nat.le_trans hl hg, rest⟩
theorem TapeMod.lower {w w1 w' : World} {x lo lo' : Nat} (h : Mod (TapeMod x lo) w1 w') (h0 : Mod (fun _ => False) w w1) (hl : lo' ≤ lo) : Mod (TapeMod x lo') w w' :=
  (h0.mono (fun _ _ => False.elim)).trans h (fun k _ hk => hk.imp id (Nat.le_trans hl))
end Go.Proofs.YtippfkokgpdmdaaDoor
