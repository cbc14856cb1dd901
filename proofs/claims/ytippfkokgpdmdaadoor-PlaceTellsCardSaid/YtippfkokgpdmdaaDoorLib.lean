/-
  Small words on worlds ('Blk': a block of cells known whole; 'Mod S': what may have turned is in S), and one law on regions that draw their order: a head of reads and of calls that only make memory, then a tail. Nothing of the program.
-/
import Derived.Handy
import Derived.WalkSpells
import Derived.BigQuiet
import Derived.Deep.QuietTactic
import Derived.StillTail
import Derived.Lib.Hide
import Derived.Deep.RegionHeld3
import Derived.Deep.DeepCutAuto
import Derived.Deep.CutBlock
import Derived.Deep.LoopGhost
import Derived.WalkLawsBesides
import Derived.Laws.EntriesVeiled
namespace Go.Proofs.YtippfkokgpdmdaaDoor
set_option linter.unusedVariables false
open Go Go.RowKit

/-- Block b is a block of cells, known whole, nothing of it frozen. -/
def Blk (w : World) (b : Nat) (cs : List Value) (T : TypeId) : Prop := w.heap[b]? = some (.cells cs.toArray T (0, 0))

section
variable {w : World} {b : Nat} {cs : List Value} {T : TypeId}

theorem Blk.lt (h : Blk w b cs T) : b < w.heap.size := (Array.getElem?_eq_some_iff.1 h).1
theorem Blk.cell (h : Blk w b cs T) (i : Nat) : w.cell? ⟨b, i, none⟩ = cs[i]? := by
  unfold Blk at h
  simp [World.cell?, h]
theorem Blk.frozen (h : Blk w b cs T) (i : Nat) : w.frozen? ⟨b, i, none⟩ = false := by
  unfold Blk at h
  simp [World.frozen?, h]
theorem Blk.drew (h : Blk w b cs T) : Blk w.drew b cs T := h
theorem Blk.new (w : World) (cs : List Value) (T : TypeId) : Blk (w.alloc (.cells cs.toArray T)) w.heap.size cs T := by
  unfold Blk; exact heap_alloc_new w _
theorem Blk.alloc (h : Blk w b cs T) (o : Obj) : Blk (w.alloc o) b cs T := by
  unfold Blk; rw [Below.heap_alloc _ _ _ h.lt]; exact h
theorem Blk.set (h : Blk w b cs T) (i : Nat) (v : Value) : Blk (w.setCell ⟨b, i, none⟩ v) b (cs.set i v) T := by
  unfold Blk at *
  simp only [World.setCell, Array.getElem?_modify, ↓reduceIte, h]
  simp
theorem Blk.set_other (h : Blk w b cs T) {a : Addr} (ha : a.block ≠ b) (v : Value) : Blk (w.setCell a v) b cs T := by
  unfold Blk; rw [Below.heap_setCell _ _ _ _ (by omega)]; exact h
theorem Blk.below {w' : World} {B : Nat} (h : Blk w b cs T) (hb : Below B w w') (hlt : b < B) : Blk w' b cs T := by
  unfold Blk; rw [hb.block b hlt]; exact h
theorem Blk.below' {w' : World} (h : Blk w b cs T) (hb : Below w.heap.size w w') : Blk w' b cs T := h.below hb h.lt
end

section
variable {w : World} {b : Nat} {T : TypeId}
theorem Blk.set2 {a0 a1 : Value} (h : Blk w b [a0, a1] T) (v0 v1 : Value) : Blk ((w.setCell ⟨b, 0, none⟩ v0).setCell ⟨b, 1, none⟩ v1) b [v0, v1] T := (h.set 0 v0).set 1 v1
theorem Blk.set3 {a0 a1 a2 : Value} (h : Blk w b [a0, a1, a2] T) (v0 v1 v2 : Value) : Blk (((w.setCell ⟨b, 0, none⟩ v0).setCell ⟨b, 1, none⟩ v1).setCell ⟨b, 2, none⟩ v2) b [v0, v1, v2] T := ((h.set 0 v0).set 1 v1).set 2 v2
theorem Blk.set4 {a0 a1 a2 a3 : Value} (h : Blk w b [a0, a1, a2, a3] T) (v0 v1 v2 v3 : Value) : Blk ((((w.setCell ⟨b, 0, none⟩ v0).setCell ⟨b, 1, none⟩ v1).setCell ⟨b, 2, none⟩ v2).setCell ⟨b, 3, none⟩ v3) b [v0, v1, v2, v3] T :=
  (((h.set 0 v0).set 1 v1).set 2 v2).set 3 v3
theorem Blk.set5 {a0 a1 a2 a3 a4 : Value} (h : Blk w b [a0, a1, a2, a3, a4] T) (v0 v1 v2 v3 v4 : Value) :
    Blk (((((w.setCell ⟨b, 0, none⟩ v0).setCell ⟨b, 1, none⟩ v1).setCell ⟨b, 2, none⟩ v2).setCell ⟨b, 3, none⟩ v3).setCell ⟨b, 4, none⟩ v4) b [v0, v1, v2, v3, v4] T :=
  ((((h.set 0 v0).set 1 v1).set 2 v2).set 3 v3).set 4 v4
theorem Blk.set6 {a0 a1 a2 a3 a4 a5 : Value} (h : Blk w b [a0, a1, a2, a3, a4, a5] T) (v0 v1 v2 v3 v4 v5 : Value) :
    Blk ((((((w.setCell ⟨b, 0, none⟩ v0).setCell ⟨b, 1, none⟩ v1).setCell ⟨b, 2, none⟩ v2).setCell ⟨b, 3, none⟩ v3).setCell ⟨b, 4, none⟩ v4).setCell ⟨b, 5, none⟩ v5) b [v0, v1, v2, v3, v4, v5] T :=
  (((((h.set 0 v0).set 1 v1).set 2 v2).set 3 v3).set 4 v4).set 5 v5
/-- The cells of block b alone may have turned. -/
structure Only (b : Nat) (w w' : World) : Prop where
  os : w'.os = w.os
  tape : w'.tape = w.tape
  output : w'.output = w.output
  size : w'.heap.size = w.heap.size
  block : ∀ k, k ≠ b → w'.heap[k]? = w.heap[k]?
theorem Only.refl (b : Nat) (w : World) : Only b w w := ⟨rfl, rfl, rfl, rfl, fun _ _ => rfl⟩
theorem Only.set {w1 : World} (h : Only b w w1) (i : Nat) (v : Value) : Only b w (w1.setCell ⟨b, i, none⟩ v) :=
  ⟨h.os, h.tape, h.output, by simpa using h.size, fun k hk => (Below.heap_setCell _ _ _ _ hk).trans (h.block k hk)⟩
theorem Only.set2 (w : World) (b : Nat) (v0 v1 : Value) : Only b w ((w.setCell ⟨b, 0, none⟩ v0).setCell ⟨b, 1, none⟩ v1) := ((Only.refl b w).set 0 v0).set 1 v1
theorem Only.set3 (w : World) (b : Nat) (v0 v1 v2 : Value) : Only b w (((w.setCell ⟨b, 0, none⟩ v0).setCell ⟨b, 1, none⟩ v1).setCell ⟨b, 2, none⟩ v2) := (Only.set2 w b v0 v1).set 2 v2
theorem Only.set4 (w : World) (b : Nat) (v0 v1 v2 v3 : Value) : Only b w ((((w.setCell ⟨b, 0, none⟩ v0).setCell ⟨b, 1, none⟩ v1).setCell ⟨b, 2, none⟩ v2).setCell ⟨b, 3, none⟩ v3) := (Only.set3 w b v0 v1 v2).set 3 v3
theorem Only.set5 (w : World) (b : Nat) (v0 v1 v2 v3 v4 : Value) : Only b w (((((w.setCell ⟨b, 0, none⟩ v0).setCell ⟨b, 1, none⟩ v1).setCell ⟨b, 2, none⟩ v2).setCell ⟨b, 3, none⟩ v3).setCell ⟨b, 4, none⟩ v4) := (Only.set4 w b v0 v1 v2 v3).set 4 v4
theorem Only.set6 (w : World) (b : Nat) (v0 v1 v2 v3 v4 v5 : Value) : Only b w ((((((w.setCell ⟨b, 0, none⟩ v0).setCell ⟨b, 1, none⟩ v1).setCell ⟨b, 2, none⟩ v2).setCell ⟨b, 3, none⟩ v3).setCell ⟨b, 4, none⟩ v4).setCell ⟨b, 5, none⟩ v5) := (Only.set5 w b v0 v1 v2 v3 v4).set 5 v5
theorem Only.blk {w' : World} {b' : Nat} {cs : List Value} (h : Only b w w') (hb : Blk w b' cs T) (hne : b' ≠ b) : Blk w' b' cs T := by
  unfold Blk; rw [h.block b' hne]; exact hb
/-- Where the block is one of the call's own. -/
theorem Only.below {w0 w' : World} {B : Nat} (h : Only b w w') (hb : Below B w0 w) (hB : B ≤ b) : Below B w0 w' :=
  hb.trans ⟨h.os, h.tape, h.output, Nat.le_of_eq h.size.symm, fun k hk => h.block k (by omega)⟩
end

/-- Of what was there in w nothing has turned in w' but blocks in S. -/
structure Mod (S : Nat → Prop) (w w' : World) : Prop where
  os : w'.os = w.os
  tape : w'.tape = w.tape
  output : w'.output = w.output
  size : w.heap.size ≤ w'.heap.size
  block : ∀ k, k < w.heap.size → ¬ S k → w'.heap[k]? = w.heap[k]?

section
variable {S S' : Nat → Prop} {w w1 w2 : World}

theorem Mod.refl (S : Nat → Prop) (w : World) : Mod S w w := ⟨rfl, rfl, rfl, Nat.le_refl _, fun _ _ _ => rfl⟩
theorem Mod.of_below (h : Below w.heap.size w w1) : Mod S w w1 := ⟨h.os, h.tape, h.output, h.size, fun k hk _ => h.block k hk⟩
theorem Mod.below (h : Mod S w w1) (hS : ∀ k, k < w.heap.size → ¬ S k) : Below w.heap.size w w1 := ⟨h.os, h.tape, h.output, h.size, fun k hk => h.block k hk (hS k hk)⟩
/-- Two steps; what the second may turn is either new or in S. -/
theorem Mod.trans (h : Mod S w w1) (h' : Mod S' w1 w2) (hS : ∀ k, k < w.heap.size → S' k → S k) : Mod S w w2 :=
  ⟨h'.os.trans h.os, h'.tape.trans h.tape, h'.output.trans h.output, Nat.le_trans h.size h'.size,
    fun k hk hn => (h'.block k (Nat.lt_of_lt_of_le hk h.size) (fun hs => hn (hS k hk hs))).trans (h.block k hk hn)⟩
theorem Mod.trans' (h : Mod S w w1) (h' : Mod S w1 w2) : Mod S w w2 := h.trans h' (fun _ _ hs => hs)
theorem Mod.thenBelow (h : Mod S w w1) (h' : Below w1.heap.size w1 w2) : Mod S w w2 := h.trans (Mod.of_below (S := S) h') (fun _ _ hs => hs)
theorem Mod.mono (h : Mod S w w1) (hS : ∀ k, k < w.heap.size → S k → S' k) : Mod S' w w1 := ⟨h.os, h.tape, h.output, h.size, fun k hk hn => h.block k hk (fun hs => hn (hS k hk hs))⟩
theorem Mod.drew (h : Mod S w w1) : Mod S w w1.drew := ⟨h.os, h.tape, h.output, h.size, h.block⟩
theorem Mod.alloc (h : Mod S w w1) (o : Obj) : Mod S w (w1.alloc o) :=
  ⟨h.os, h.tape, h.output, by simp; have := h.size; omega, fun k hk hn => (Below.heap_alloc _ _ _ (by have := h.size; omega)).trans (h.block k hk hn)⟩
theorem Mod.setCell (h : Mod S w w1) {a : Addr} (ha : a.block < w.heap.size → S a.block) (v : Value) : Mod S w (w1.setCell a v) :=
  ⟨h.os, h.tape, h.output, by simpa using h.size, fun k hk hn => (Below.heap_setCell _ _ _ _ (fun e => hn (by rw [e]; exact ha (by omega)))).trans (h.block k hk hn)⟩
theorem Mod.grown {row : Option Nat} (h : Mod S w w1) (hg : w1.grownBy w2 row) (hr : ∀ k, row = some k → k < w.heap.size → S k) : Mod S w w2 :=
  ⟨hg.os.trans h.os, hg.tape.trans h.tape, hg.output.trans h.output, Nat.le_trans h.size hg.size,
    fun k hk hn => (hg.block k (Nat.lt_of_lt_of_le hk h.size) (fun e => hn (hr k e.symm hk))).trans (h.block k hk hn)⟩
theorem Mod.blk {b : Nat} {cs : List Value} {T : TypeId} (h : Mod S w w1) (hb : Blk w b cs T) (hS : ¬ S b) : Blk w1 b cs T := by
  unfold Blk; rw [h.block b hb.lt hS]; exact hb
theorem Mod.cell (h : Mod S w w1) {a : Addr} (hlt : a.block < w.heap.size) (hS : ¬ S a.block) : w1.cell? a = w.cell? a := World.cell?_of_block (h.block a.block hlt hS)
theorem Mod.frozen (h : Mod S w w1) {a : Addr} (hlt : a.block < w.heap.size) (hS : ¬ S a.block) : w1.frozen? a = w.frozen? a := World.frozen?_of_block (h.block a.block hlt hS)
end

/-! ### A region that draws its order: a head that is quiet in a class of worlds, then a tail in the text's order -/
section
variable {P : Program} {ops : Array Oper} {md : Region.Mode} {C : World → Prop}

def anyLQ (P : Program) (md : Region.Mode) (ops : Array Oper) (C : World → Prop) (n : Nat) (L : Array Bool → Act → Prop) : Nat → Array Bool → Act → Prop
  | 0, listed, a => L listed a
  | f + 1, listed, a =>
    Region.ready md ops listed ≠ [] ∧ ∀ i ∈ Region.ready md ops listed, i < n ∧ qOp P ops C i (anyLQ P md ops C n L f (listed.setIfInBounds i true)) a

theorem any_of_headQ {n g : Nat} {L : Array Bool → Act → Prop} {Q' : Exit → Act → World → Prop} (hL : ∀ listed a w, C w → L listed a → wpAny P md ops Q' g listed a w) :
    ∀ (f : Nat) (listed : Array Bool) (a : Act) (w : World), C w → anyLQ P md ops C n L f listed a → wpAny P md ops Q' (f + g) listed a w
  | 0, listed, a, w, hw, h => by rw [Nat.zero_add]; exact hL _ _ _ hw h
  | f + 1, listed, a, w, hw, h => by
    rw [show f + 1 + g = (f + g) + 1 by omega]
    exact ⟨fun h0 => absurd h0 h.1, fun i hi => wpOp_of_qOp hw (fun a' w' hw' h' => any_of_headQ hL f _ a' w' hw' h') (h.2 i hi).2⟩

theorem anyLQ_first {n i : Nat} {oi : Oper} {v : Value} {L : Array Bool → Act → Prop} (hi : ops[i]? = some oi) (hsel : ∀ (j : Nat) (o : Oper) cs b, ops[j]? = some o → o.op ≠ .select cs b)
    (hs : Region.sinkB md ops n = true) (hc : Region.chainB md ops n = true) (hn : n < ops.size) (hin : i < n)
    (hdone : ∀ listed a, L listed a → ∀ j ∈ Region.ready md ops listed, n ≤ j) :
    ∀ (f : Nat) (listed : Array Bool) (a : Act), HeadInv md ops n listed →
      (∀ j oj, ops[j]? = some oj → j ≠ i → listed.getD j true = false → (∀ e ∈ oj.after, Region.binds md e = true → e.on ≠ i) → oi.apart ops oj = true) →
      i ∈ Region.ready md ops listed → YieldsIn P ops C oi v a →
      anyLQ P md ops C n L f (listed.setIfInBounds i true) (a.put oi.dst v) → anyLQ P md ops C n L (f + 1) listed a := by
  intro f
  induction f with
  | zero =>
    intro listed a inv _ hr hy H
    have hun := (mem_ready.1 hr).1
    refine ⟨fun h => (by rw [h] at hr; cases hr), fun j hj => ?_⟩
    have hjn : j < n := by
      rcases Nat.lt_or_ge j n with h | h
      · exact h
      · exact absurd hj (tail_waits hs hc hn inv _ i rfl hin hun j h)
    refine ⟨hjn, ?_⟩
    by_cases hji : j = i
    · subst hji; exact hy.qOp hi H
    · have := hdone _ _ H j (ready_mono hj hji)
      omega
  | succ f ih =>
    intro listed a inv hfree hr hy H
    have hun := (mem_ready.1 hr).1
    refine ⟨fun h => (by rw [h] at hr; cases hr), fun j hj => ?_⟩
    have hjn : j < n := by
      rcases Nat.lt_or_ge j n with h | h
      · exact h
      · exact absurd hj (tail_waits hs hc hn inv _ i rfl hin hun j h)
    refine ⟨hjn, ?_⟩
    by_cases hji : j = i
    · subst hji; exact hy.qOp hi H
    · have h1 := (H.2 j (ready_mono hj hji)).2
      obtain ⟨hjun, oj, hoj, hall⟩ := mem_ready.1 hj
      have hnot : ∀ e ∈ oj.after, Region.binds md e = true → e.on ≠ i := fun e he hb heq => by
        have h1 := hall e he hb
        rw [heq, getD_both hun] at h1
        cases h1
      have h2 := qOp_put hoj (hfree j oj hoj hji hjun hnot) (fun cs b => hsel i oi cs b hi) (fun cs b => hsel j oj cs b hoj) hy h1
      have hfree' : ∀ k ok, ops[k]? = some ok → k ≠ i → (listed.setIfInBounds j true).getD k true = false →
          (∀ e ∈ ok.after, Region.binds md e = true → e.on ≠ i) → oi.apart ops ok = true := fun k ok hk hki hun hno => by
        refine hfree k ok hk hki ?_ hno
        by_cases hjk : j = k
        · subst hjk; exact hjun
        · rw [getD_set_ne true hjk] at hun; exact hun
      refine qOp_mono (fun a' h3 => ih (listed.setIfInBounds j true) a' (inv.set hj hjn) hfree' (ready_mono hr (Ne.symm hji)) h3.1 ?_) h2
      rw [Array.setIfInBounds_comm _ _ hji]
      exact h3.2

theorem anyLQ_lex {n g : Nat} {Lq : Act → Prop} (hsel : Region.noSelect ops = true) (hs : Region.sinkB md ops n = true) (hc : Region.chainB md ops n = true) (hn : n < ops.size) :
    ∀ (l : List Oper) (k : Nat) (listed : Array Bool) (a : Act), (∀ j, j < l.length → l[j]? = ops[k + j]?) → k + l.length = n → HeadInv md ops n listed →
    Region.lexHead md ops g l.length k listed = true → wpQuiet P ops C Lq l a →
    anyLQ P md ops C n (fun listed' a' => Region.seqB md ops g n listed' = true ∧ Lq a') l.length listed a
  | [], k, listed, a, _, hk, _, hB, h => by
    have : k = n := by simpa using hk
    subst this
    exact ⟨by simpa [Region.lexHead] using hB, h⟩
  | o :: l, k, listed, a, hl, hk, inv, hB, h => by
    have h0 : ops[k]? = some o := by simpa using (hl 0 (by simp)).symm
    simp only [List.length_cons, Region.lexHead, Bool.and_eq_true] at hB
    obtain ⟨⟨hr, hf⟩, hB'⟩ := hB
    have hkn : k < n := by simp only [List.length_cons] at hk; omega
    have hr' : k ∈ Region.ready md ops listed := by simpa using hr
    have hst : qOp P ops C k (wpQuiet P ops C Lq l) a := by unfold qOp; simp only [h0]; exact h
    obtain ⟨v, hy, hK⟩ := yieldsIn_of_qOp h0 hst
    exact anyLQ_first h0 (Region.noSelect_spec hsel) hs hc hn hkn (fun listed' a' hL => seqB_ready hL.1) l.length listed a inv (Region.free_spec h0 hf) hr' hy
      (anyLQ_lex hsel hs hc hn l (k + 1) _ _ (fun j hj => by have := hl (j + 1) (by simp; omega); simpa [Nat.add_assoc, Nat.add_comm 1 j] using this) (by simp only [List.length_cons] at hk; omega) (inv.set hr' hkn) hB' hK)

/-- How often the tape was asked, and what blocks have come. -/
structure Pk where
  d : Nat
  os : Array Obj
  deriving Inhabited
/-- w, later: nothing that was there has turned. -/
def later (w : World) (p : Pk) : World := { w with drawn := p.d, heap := w.heap ++ p.os }
theorem later_below (w : World) (p : Pk) : Below w.heap.size w (later w p) :=
  ⟨rfl, rfl, rfl, by simp [later], fun k hk => by simp [later, Array.getElem?_append, hk]⟩
theorem later_of_below {w w' : World} (h : Below w.heap.size w w') : ∃ p : Pk, w' = later w p := by
  refine ⟨⟨w'.drawn, w'.heap.extract w.heap.size w'.heap.size⟩, ?_⟩
  obtain ⟨heap', tape', drawn', os', output'⟩ := w'
  have e1 : os' = w.os := h.os
  have e2 : tape' = w.tape := h.tape
  have e3 : output' = w.output := h.output
  have hs : w.heap.size ≤ heap'.size := h.size
  have hb : ∀ k, k < w.heap.size → heap'[k]? = w.heap[k]? := h.block
  subst e1 e2 e3
  have eh : heap' = w.heap ++ heap'.extract w.heap.size heap'.size := by
    apply Array.ext_getElem?
    intro k
    by_cases hk : k < w.heap.size
    · rw [Array.getElem?_append_left hk]; exact hb k hk
    · rw [Array.getElem?_append_right (by omega), Array.getElem?_extract]
      by_cases hk2 : k < heap'.size
      · rw [if_pos (by omega)]; congr 1; omega
      · rw [if_neg (by omega), Array.getElem?_eq_none (by omega)]
  simp only [later]
  congr 1
@[go_sem, simp] theorem later_size (w : World) (p : Pk) : (later w p).heap.size = w.heap.size + p.os.size := by simp [later]
@[go_sem] theorem later_cell (w : World) (p : Pk) (a : Addr) (h : (w.cell? a).isSome = true) : (later w p).cell? a = w.cell? a := by
  obtain ⟨u, hu⟩ := Option.isSome_iff_exists.1 h
  exact (later_below w p).cell (World.block_lt_of_cell? w a hu)
@[go_sem] theorem later_frozen (w : World) (p : Pk) (a : Addr) (h : (w.cell? a).isSome = true) : (later w p).frozen? a = w.frozen? a := by
  obtain ⟨u, hu⟩ := Option.isSome_iff_exists.1 h
  exact (later_below w p).frozen (World.block_lt_of_cell? w a hu)
@[go_sem] theorem alloc_cell_old (w : World) (o : Obj) (a : Addr) (h : (w.cell? a).isSome = true) : (w.alloc o).cell? a = w.cell? a := by
  obtain ⟨u, hu⟩ := Option.isSome_iff_exists.1 h
  exact World.cell?_alloc_lt _ _ _ (World.block_lt_of_cell? w a hu)
@[go_sem] theorem alloc_frozen_old (w : World) (o : Obj) (a : Addr) (h : (w.cell? a).isSome = true) : (w.alloc o).frozen? a = w.frozen? a := by
  obtain ⟨u, hu⟩ := Option.isSome_iff_exists.1 h
  exact World.frozen?_alloc_old _ _ _ (Nat.ne_of_lt (World.block_lt_of_cell? w a hu))
theorem later_later (w : World) (p q : Pk) : later (later w p) q = later w ⟨q.d, p.os ++ q.os⟩ := by simp [later, Array.append_assoc]
/-- A callee's contract that ends in 'Below', met in a later world. -/
theorem calls_later {P : Program} {f : FuncId} {args : Array Value} {w : World} {p : Pk} {v : Value}
    (h : Calls P f args (later w p) fun e w' => e = .returned v ∧ Below (later w p).heap.size (later w p) w') : Calls P f args (later w p) fun e w'' => e = .returned v ∧ ∃ q : Pk, w'' = later w q :=
  h.mono fun _ _ ⟨he, hb⟩ => ⟨he, later_of_below ((later_below w p).trans (hb.mono (later_below w p).size))⟩

theorem wp_region_tail {id : Nat} {Q : Exit → Act → World → Prop} {a : Act} {w : World} {l : List Oper} (n : Nat) (hm : P.follows .mixedOrders = true) (hB : Region.lexTailB .any l.toArray n = true)
    (h : wpQuiet P l.toArray (fun w' => ∃ p : Pk, w' = later w p) (fun a' => ∀ w', Below w.heap.size w w' → wpList P l.toArray Q (l.drop n) a' w') (l.take n) a) : (Code.region id l.toArray true).wp P Q a w := by
  simp only [Region.lexTailB, Bool.and_eq_true, decide_eq_true_eq] at hB
  obtain ⟨⟨⟨⟨hsel, hn⟩, hs⟩, hc⟩, hlex⟩ := hB
  have hn' : n < l.length := by simpa using hn
  have htl : (l.take n).length = n := by simp; omega
  have hdl : (l.drop n).length = l.toArray.size - n := by simp
  have inv0 : HeadInv .any l.toArray n (Array.replicate l.toArray.size false) :=
    ⟨by simp, fun j oj _ hl => (by rw [getD_replicate_false] at hl; cases hl), fun t _ ht => getD_in (by simpa using ht) (getD_replicate_false _ _)⟩
  have H := anyLQ_lex (md := .any) (g := l.toArray.size - n) hsel hs hc hn (l.take n) 0 _ a (fun j hj => by
    have hj' : j < n := by rw [htl] at hj; exact hj
    simp [hj']) (by simpa using htl) inv0 (by rw [htl]; exact hlex) h
  refine wp_region_any hm ?_
  have := any_of_headQ (Q' := Q) (g := l.toArray.size - n) (fun listed a' w' hw' hL => by
    have := wpAny_of_seq (md := .any) (Q' := Q) (l.drop n) n listed a' w' (fun j => by simp [List.getElem?_drop]) (by rw [hdl]; exact hL.1) (hL.2 w' (by obtain ⟨p, rfl⟩ := hw'; exact later_below w p))
    rwa [hdl] at this) _ _ _ { w with drawn := w.drawn + 1 } (later_of_below (Below.refl _ w).drew) H
  rw [htl, show n + (l.toArray.size - n) = l.toArray.size by omega] at this
  exact this

/-- No tail: all is read. -/
theorem wp_region_reads {id : Nat} {Q : Exit → Act → World → Prop} {a : Act} {w : World} {l : List Oper} (hm : P.follows .mixedOrders = true) (hB : Region.lexB .any l.toArray = true)
    (h : wpQuiet P l.toArray (fun w' => ∃ p : Pk, w' = later w p) (fun a' => ∀ w', Below w.heap.size w w' → Q .normal a' w') l a) : (Code.region id l.toArray true).wp P Q a w := by
  have h2 : wpQuiet P l.toArray (fun w' => ∃ p : Pk, w' = later w p) (fun a' => ∀ w', (∃ p : Pk, w' = later w p) → Q .normal a' w') l a := by
    have e : (fun a' => ∀ w', (∃ p : Pk, w' = later w p) → Q .normal a' w') = (fun a' => ∀ w', Below w.heap.size w w' → Q .normal a' w') := by
      funext a'
      exact propext ⟨fun hh w' hb => hh w' (later_of_below hb), fun hh w' ⟨p, hp⟩ => hh w' (hp ▸ later_below w p)⟩
    rw [e]; exact h
  exact wp_region_quiet (C := fun w' => ∃ p : Pk, w' = later w p) hm hB (later_of_below (Below.refl _ w).drew) (by simpa using h2)
end

/-! ### For a region that makes a variable among its calls: what is kept of one block -/
section
variable {w w' : World} {b : Nat} {cs : List Value} {T : TypeId}
theorem keepB (h : Blk w b cs T ∧ ∀ i, w.cell? ⟨b, i, none⟩ = cs[i]?) (hb : Below w.heap.size w w') : Blk w' b cs T ∧ ∀ i, w'.cell? ⟨b, i, none⟩ = cs[i]? := ⟨h.1.below' hb, (h.1.below' hb).cell⟩
theorem keepA (h : Blk w b cs T ∧ ∀ i, w.cell? ⟨b, i, none⟩ = cs[i]?) (o : Obj) : Blk (w.alloc o) b cs T ∧ ∀ i, (w.alloc o).cell? ⟨b, i, none⟩ = cs[i]? := ⟨h.1.alloc o, (h.1.alloc o).cell⟩
theorem keepL (h : Blk w b cs T ∧ ∀ i, w.cell? ⟨b, i, none⟩ = cs[i]?) (p : Pk) : Blk (later w p) b cs T ∧ ∀ i, (later w p).cell? ⟨b, i, none⟩ = cs[i]? := keepB h (later_below w p)
theorem keepS (h : Blk w b cs T ∧ ∀ i, w.cell? ⟨b, i, none⟩ = cs[i]?) {A i : Nat} {s : Option Nat} (hne : A ≠ b) (v : Value) : Blk (w.setCell ⟨A, i, s⟩ v) b cs T ∧ ∀ i', (w.setCell ⟨A, i, s⟩ v).cell? ⟨b, i', none⟩ = cs[i']? :=
  ⟨h.1.set_other hne v, (h.1.set_other hne v).cell⟩
theorem keepD (h : Blk w b cs T) : Blk w.drew b cs T ∧ ∀ i, w.drew.cell? ⟨b, i, none⟩ = cs[i]? := ⟨h.drew, h.drew.cell⟩
end

theorem owns_shape {w : World} {lo : Nat} {e : TypeId} {size : Nat} {v : Value} {n : Nat} {xs : List Value} (h : w.ownsRow lo e size v n xs) : ∃ a c, v = .slice a n c := by
  rcases h.2 with ⟨rfl, rfl⟩ | ⟨g, cap, cur, rfl, _⟩
  · exact ⟨_, _, rfl⟩
  · exact ⟨_, _, rfl⟩
/-- append of one element, which lies in a block of its own: by the owned row's law. -/
theorem append_one {P : Program} {w : World} {ops : Array Oper} {rest : List Oper} {o : Oper} {a : Act} {Q : Exit → Act → World → Prop} (hgd : o.guard = none) (s x : Operand) (t : TypeId)
    (ho : o.op = .call { callee := .builtin .append, args := #[s, x], argTypes := #[t, t] })
    (lo : Nat) (e : TypeId) (z : Value) (size bytes : Nat) (ht : P.underlying t = some (.slice e)) (hi : (P.info? e).map (fun i => (i.zero, i.size, i.bytes)) = some (some z, size, bytes)) (hzs : z.cells.size = size) (hsz : 0 < size)
    (v : Value) (n : Nat) (xs : List Value) (hs : a.eval s = v) (hown : w.ownsRow lo e size v n xs)
    (B : Nat) (T : TypeId) (cs : List Value) (hx : a.eval x = .slice (some ⟨B, 0, none⟩) 1 1) (hB : Blk w B cs T) (hl : cs.length = size) (h1 : ∀ u ∈ cs, u.oneCell' = true)
    (hn : n ≤ 65000) (hby : bytes ≤ 1000) (hbase : lo ≤ w.heap.size)
    (h : ∀ va vc w', w'.ownsRow lo e size (.slice va (n + 1) vc) (n + 1) (xs ++ cs) → w.grownBy w' v.ownBlock → wpList P ops Q rest (a.put o.dst (.slice va (n + 1) vc)) w') : wpList P ops Q (o :: rest) a w := by
  obtain ⟨i0, hi, hz0, hz1, hz2⟩ := info_parts hi
  refine wpList_append_own w hgd s x t ho lo e i0 z size bytes ht hi hz0 hz1 hz2 hzs hsz v n xs hs hown ⟨B, 0, none⟩ 1 1 cs hx (by omega) ?_ h1 (by unfold maxLen; omega) ?_ hbase (fun v' w' h2 h3 _ => by obtain ⟨va, vc, rfl⟩ := owns_shape h2; exact h va vc w' h2 h3)
  · intro j u hu
    rw [Addr.add_lit, Nat.zero_add, hB.cell]
    exact hu
  · have h65 : (n + 1) * bytes ≤ 65001 * 1000 := Nat.mul_le_mul (by omega) hby
    omega
theorem own_ge {w : World} {lo : Nat} {e : TypeId} {size : Nat} {v : Value} {n : Nat} {xs : List Value} (h : w.ownsRow lo e size v n xs) : ∀ k, v.ownBlock = some k → lo ≤ k := fun k hk => (h.lt k hk).1
theorem grown_blk {w w' : World} {row : Option Nat} {b : Nat} {cs : List Value} {T : TypeId} (hg : w.grownBy w' row) (hB : Blk w b cs T) (hr : ∀ k, row = some k → k ≠ b) : Blk w' b cs T := by
  unfold Blk; rw [hg.block b hB.lt (fun e => hr b e.symm rfl)]; exact hB
theorem Mod.one (w : World) (b i : Nat) (v : Value) : Mod (fun k => k = b) w (w.setCell ⟨b, i, none⟩ v) := Mod.setCell (S := fun k => k = b) (a := ⟨b, i, none⟩) (Mod.refl _ _) (fun _ => rfl) v
theorem Only.mod {w w' : World} {b : Nat} (h : Only b w w') : Mod (fun k => k = b) w w' := ⟨h.os, h.tape, h.output, Nat.le_of_eq h.size.symm, fun k _ hn => h.block k hn⟩
theorem Blk.new2 (w : World) (o : Obj) (cs : List Value) (T : TypeId) : Blk ((w.alloc o).alloc (.cells cs.toArray T)) (w.heap.size + 1) cs T := by
  have h := Blk.new (w.alloc o) cs T
  rwa [World.size_alloc] at h
theorem below_mod {B : Nat} {S : Nat → Prop} {w w1 w2 : World} (h : Below B w w1) (hm : Mod S w1 w2) (hB : B ≤ w1.heap.size) (hS : ∀ k, k < B → ¬ S k) : Below B w w2 :=
  h.trans ⟨hm.os, hm.tape, hm.output, hm.size, fun k hk => hm.block k (Nat.lt_of_lt_of_le hk hB) (hS k hk)⟩
/-- One element is added to a list of the call's own, by way of two boxes. -/
theorem Mod.added {w w2 w3 : World} {o o' : Obj} {lo : Nat} {row : Option Nat} (hb : Below w.heap.size w w2) (hg : ((w2.alloc o).alloc o').grownBy w3 row) (hr : ∀ k, row = some k → lo ≤ k) : Mod (fun k => lo ≤ k) w w3 :=
  ((((Mod.of_below hb).alloc o).alloc o').grown hg (fun k hk _ => hr k hk))
end Go.Proofs.YtippfkokgpdmdaaDoor
