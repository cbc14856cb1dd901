/-
  A slice of words (uint64) of the call's own, at the head of a block; plain words on lists of words: what is found at a place, what is there behind an access.
-/
import Derived.Test.YtippfkokgpdmdaaDoorTape
namespace Go.Proofs.YtippfkokgpdmdaaDoor
open Go Go.RowKit
set_option linter.unusedVariables false

abbrev u64s (ws : List Int) : List Value := ws.map (.int .u64)
theorem u64s_get (ws : List Int) (j : Nat) (h : j < ws.length) : (u64s ws)[j]? = some (.int .u64 ws[j]) := by simp [u64s, h]
theorem u64s_one (ws : List Int) : ∀ u ∈ u64s ws, u.oneCell' = true := by
  intro u hu
  obtain ⟨x, _, rfl⟩ := List.mem_map.1 hu
  rfl

/-- A slice of words whose cells are the first ones of block g. -/
structure Row (w : World) (g : Nat) (v : Value) (ws : List Int) : Prop where
  ex : ∃ (a : Option Addr) (c : Nat), v = .slice a ws.length c ∧ ws.length ≤ c ∧ (0 < ws.length → a = some ⟨g, 0, none⟩ ∧ ∃ cur : Array Value, w.heap[g]? = some (.cells cur 22 (0, 0)) ∧ cur.size = c ∧ cur.toList.take ws.length = u64s ws)
section
variable {w w' : World} {g : Nat} {v : Value} {ws : List Int} {S : Nat → Prop}
theorem Row.addr (h : Row w g v ws) (hn : 0 < ws.length) : ∃ c, v = .slice (some ⟨g, 0, none⟩) ws.length c ∧ ws.length ≤ c := by
  obtain ⟨a, c, rfl, hc, hx⟩ := h.ex
  obtain ⟨rfl, _⟩ := hx hn
  exact ⟨c, rfl, hc⟩
theorem Row.len (h : Row w g v ws) : ∃ a c, v = .slice a ws.length c ∧ ws.length ≤ c := by
  obtain ⟨a, c, hv, hc, _⟩ := h.ex
  exact ⟨a, c, hv, hc⟩
theorem Row.cell (h : Row w g v ws) (j : Nat) (hj : j < ws.length) : w.cell? ⟨g, j, none⟩ = some (.int .u64 ws[j]) := by
  obtain ⟨a, c, rfl, hc, hx⟩ := h.ex
  obtain ⟨_, cur, hg, hs, ht⟩ := hx (by omega)
  have h1 : cur[j]? = some (.int .u64 ws[j]) := by
    have h2 := u64s_get ws j hj
    rw [← ht, List.getElem?_take] at h2
    rw [if_pos hj] at h2
    simpa using h2
  simp [World.cell?, hg, h1]
theorem Row.frozen (h : Row w g v ws) (hn : 0 < ws.length) (j : Nat) : w.frozen? ⟨g, j, none⟩ = false := by
  obtain ⟨a, c, rfl, hc, hx⟩ := h.ex
  obtain ⟨_, cur, hg, hs, ht⟩ := hx hn
  simp [World.frozen?, hg]
theorem Row.lt (h : Row w g v ws) (hn : 0 < ws.length) : g < w.heap.size := by
  obtain ⟨a, c, rfl, hc, hx⟩ := h.ex
  obtain ⟨_, cur, hg, _⟩ := hx hn
  exact (Array.getElem?_eq_some_iff.1 hg).1
theorem Row.mod (h : Row w g v ws) (hm : Mod S w w') (hS : ¬ S g) : Row w' g v ws := by
  obtain ⟨a, c, rfl, hc, hx⟩ := h.ex
  refine ⟨a, c, rfl, hc, fun hn => ?_⟩
  obtain ⟨ha, cur, hg, hs, ht⟩ := hx hn
  exact ⟨ha, cur, by rw [hm.block g (Array.getElem?_eq_some_iff.1 hg).1 hS]; exact hg, hs, ht⟩
theorem Row.below (h : Row w g v ws) (hb : Below w.heap.size w w') : Row w' g v ws := h.mod (Mod.of_below (S := fun _ => False) hb) id
theorem Row.alloc (h : Row w g v ws) (o : Obj) : Row (w.alloc o) g v ws := h.below ((Below.refl _ _).alloc (Nat.le_refl _) _)
theorem Row.set (h : Row w g v ws) (j : Nat) (hj : j < ws.length) (x : Int) : Row (w.setCell ⟨g, j, none⟩ (.int .u64 x)) g v (ws.set j x) := by
  obtain ⟨a, c, rfl, hc, hx⟩ := h.ex
  refine ⟨a, c, by simp, by simpa using hc, fun _ => ?_⟩
  obtain ⟨ha, cur, hg, hs, ht⟩ := hx (by omega)
  refine ⟨ha, cur.setIfInBounds j (.int .u64 x), ?_, by simpa using hs, ?_⟩
  · simp only [World.setCell, Array.getElem?_modify, ↓reduceIte, hg]
    simp
  · simp only [List.length_set, Array.toList_setIfInBounds, List.take_set, ht, u64s, List.map_set]
theorem Row.reads (h : Row w g v ws) {hi : Nat} (hg : 0 < ws.length → g < hi) : U64s w hi v ws := by
  obtain ⟨a, c, rfl, hc, hx⟩ := h.ex
  refine ⟨a, c, rfl, fun hn => ?_⟩
  obtain ⟨rfl, _⟩ := hx hn
  refine ⟨g, 0, rfl, hg hn, fun j hj => ?_⟩
  rw [Nat.zero_add]
  exact h.cell j hj
theorem Row.of_own {lo n : Nat} (h : w.ownsRow lo 22 1 v n (u64s ws)) : ∃ g, Row w g v ws ∧ lo ≤ g ∧ (0 < ws.length → g < w.heap.size) := by
  have hn : ws.length = n := by have := h.1; simpa [u64s] using this
  subst hn
  rcases h.2 with ⟨rfl, h0⟩ | ⟨g, cap, cur, rfl, hb, hg, hc, hm, hs, ht⟩
  · exact ⟨lo, ⟨none, 0, by rw [h0], by omega, fun hn => by omega⟩, Nat.le_refl _, fun hn => by omega⟩
  · exact ⟨g, ⟨_, cap, rfl, hc, fun hn => ⟨rfl, cur, hg, by simpa using hs, by simpa using ht⟩⟩, hb, fun _ => (Array.getElem?_eq_some_iff.1 hg).1⟩
/-- A row is in a block of cells of its own kind. -/
theorem Row.ne_blk {b : Nat} {cs : List Value} {T : TypeId} (h : Row w g v ws) (hn : 0 < ws.length) (hB : Blk w b cs T) (hT : T ≠ 22) : g ≠ b := by
  rintro rfl
  obtain ⟨a, c, rfl, hc, hx⟩ := h.ex
  obtain ⟨_, cur, hg, _⟩ := hx hn
  unfold Blk at hB
  rw [hB] at hg
  injection hg with hg
  injection hg with _ ht
  exact hT ht
end

/-- What is found at a place; 0: there is none. -/
def wget (ws : List Int) (at_ : Int) : Int := if 0 ≤ at_ ∧ at_ < ws.length then ws.getD at_.toNat 0 else 0
/-- The words, with another one at a place, if there is one. -/
def wset (ws : List Int) (at_ x : Int) : List Int := if 0 ≤ at_ ∧ at_ < ws.length then ws.set at_.toNat x else ws
theorem wset_length (ws : List Int) (at_ x : Int) : (wset ws at_ x).length = ws.length := by unfold wset; split <;> simp
theorem wget_out {ws : List Int} {at_ : Int} (h : ¬ (0 ≤ at_ ∧ at_ < ws.length)) : wget ws at_ = 0 := if_neg h
theorem wset_out {ws : List Int} {at_ : Int} (x : Int) (h : ¬ (0 ≤ at_ ∧ at_ < ws.length)) : wset ws at_ x = ws := if_neg h
theorem wget_nat {ws : List Int} {j : Nat} (h : j < ws.length) : wget ws j = ws[j] := by simp [wget, h, List.getD]
theorem wset_nat {ws : List Int} {j : Nat} (h : j < ws.length) (x : Int) : wset ws j x = ws.set j x := by simp [wset, h]
theorem wget_in {ws : List Int} {at_ : Int} (h0 : 0 ≤ at_) (h1 : at_ < ws.length) : wget ws at_ = ws[at_.toNat]'(by omega) := by
  have : at_.toNat < ws.length := by omega
  simp [wget, h0, h1, List.getD, this]
theorem wset_in {ws : List Int} {at_ : Int} (h0 : 0 ≤ at_) (h1 : at_ < ws.length) (x : Int) : wset ws at_ x = ws.set at_.toNat x := by simp [wset, h0, h1]
theorem wget_wset_same {ws : List Int} {at_ : Int} (x : Int) (h : 0 ≤ at_ ∧ at_ < ws.length) : wget (wset ws at_ x) at_ = x := by
  have h2 : at_.toNat < ws.length := by omega
  simp [wget, wset, h, h2, List.getD]
theorem wget_wset_other {ws : List Int} {at_ at' : Int} (x : Int) (h : at' ≠ at_) : wget (wset ws at_ x) at' = wget ws at' := by
  unfold wset
  split
  · rename_i hh
    unfold wget
    simp only [List.length_set]
    split
    · rename_i h2
      have h3 : at_.toNat ≠ at'.toNat := by omega
      simp [List.getD, h3]
    · rfl
  · rfl
/-- What a swap leaves. -/
def swp (found o x : Int) : Int := if found = o then x else found
/-- An access of a kind: 2 a store, 3 a swap, 4 an addition, all else a load: what stands there behind it. -/
def opNew (k found a b : Int) : Int := if k = 2 then a else if k = 3 then swp found a b else if k = 4 then (found + a) % 18446744073709551616 else found
def opDo (ws : List Int) (k at_ a b : Int) : List Int := wset ws at_ (opNew k (wget ws at_) a b)
theorem opDo_length (ws : List Int) (k at_ a b : Int) : (opDo ws k at_ a b).length = ws.length := wset_length _ _ _
theorem wrapu (n : Int) : IntKind.u64.wrap n = n % 18446744073709551616 := by simp [IntKind.wrap, IntKind.bits, IntKind.signed]
end Go.Proofs.YtippfkokgpdmdaaDoor
