/-
  What a deed finds in a list, by the document; a list of deeds as it is handed in.
-/
import Derived.Test.YtippfkokgpdmdaaDoorDeed
import Derived.Test.YtippfkokgpdmdaaDoorStructs
import Derived.Test.YtippfkokgpdmdaaDoorCellsPlays
namespace Go.Proofs.YtippfkokgpdmdaaDoor
open Go Go.RowKit
set_option linter.unusedVariables false

/-- A slice of deeds that reads so; its cells, if any, lie in block g. -/
structure DeedsB (w : World) (g : Nat) (v : Value) (ds : List D) : Prop where
  ex : ∃ (a : Option Addr) (c : Nat), v = .slice a ds.length c ∧ ds.length ≤ c ∧ (0 < ds.length → ∃ off, a = some ⟨g, off, none⟩ ∧ ∀ j (h : j < ds.length) i, i < 5 → w.cell? ⟨g, off + j * 5 + i, none⟩ = (ds[j]).cells[i]?)
section
variable {w w' : World} {g : Nat} {v : Value} {ds : List D} {S : Nat → Prop}
theorem D.some_cell (d : D) (i : Nat) (h : i < 5) : ∃ u, d.cells[i]? = some u := ⟨_, List.getElem?_eq_getElem (by simp [D.cells]; omega)⟩
theorem DeedsB.mod (h : DeedsB w g v ds) (hm : Mod S w w') (hS : ¬ S g) : DeedsB w' g v ds := by
  obtain ⟨a, c, hv, hc, hx⟩ := h.ex
  refine ⟨a, c, hv, hc, fun hn => ?_⟩
  obtain ⟨off, ha, hcs⟩ := hx hn
  refine ⟨off, ha, fun j hj i hi => ?_⟩
  obtain ⟨u, hu⟩ := D.some_cell ds[j] i hi
  have h1 := hcs j hj i hi
  rw [hu] at h1
  rw [hm.cell (a := ⟨g, off + j * 5 + i, none⟩) (World.block_lt_of_cell? w _ h1) hS, h1, hu]
theorem DeedsB.below (h : DeedsB w g v ds) (hb : Below w.heap.size w w') : DeedsB w' g v ds := h.mod (Mod.of_below (S := fun _ => False) hb) id
theorem DeedsB.lt (h : DeedsB w g v ds) (hn : 0 < ds.length) : g < w.heap.size := by
  obtain ⟨a, c, hv, hc, hx⟩ := h.ex
  obtain ⟨off, ha, hcs⟩ := hx hn
  obtain ⟨u, hu⟩ := D.some_cell ds[0] 0 (by omega)
  have h1 := hcs 0 hn 0 (by omega)
  rw [hu] at h1
  exact World.block_lt_of_cell? w _ h1
end
theorem rdo7_calls (w : World) (hi : Nat) (av : Option Addr) (c n : Nat) (ws : List Int) (hnl : ws.length = n) (h : U64s w hi (.slice av n c) ws) (hhi : hi ≤ w.heap.size) (hn : n ≤ 65000) (d : D) :
    Calls Tryd.prog 46 #[.slice av n c, .agg #[.int .i64 d.k, .int .i64 d.at_, .int .u64 d.a, .int .u64 d.b, .int .u64 d.by_]] w fun e w' => ∃ va vc, e = .returned (.tuple #[.int .u64 (dGet ws d), .slice va n vc]) ∧ U64s w' w'.heap.size (.slice va n vc) (dDo ws d) ∧ Below w.heap.size w w' ∧ (va = av ∨ ∀ b off, va = some ⟨b, off, none⟩ → w.heap.size ≤ b) := by
  obtain ⟨k, at_, a, b, by_⟩ := d
  have b1 : Below w.heap.size w (w.alloc (.cells #[.int .i64 k, .int .i64 at_, .int .u64 a, .int .u64 b, .int .u64 by_] 48)) := (Below.refl _ _).alloc (Nat.le_refl _) _
  have B1 := Blk.new w [.int .i64 k, .int .i64 at_, .int .u64 a, .int .u64 b, .int .u64 by_] 48
  have C1 := B1.cell
  have H := Lib.hid h
  have HN := Lib.hid hnl
  clear h hnl
  by_cases hk : 1 ≤ k ∧ k ≤ 4
  · have e1 : Hid (dGet ws ⟨k, at_, a, b, by_⟩ = wget ws at_) := if_pos hk
    have e2 : Hid (dDo ws ⟨k, at_, a, b, by_⟩ = opDo ws k at_ a b) := if_pos hk
    have h1 : decide (k < 1) = false := by simp; omega
    have h2 : decide (4 < k) = false := by simp; omega
    have H1 := H.out.below b1
    rw [← HN.out] at H1
    have R := rdo_calls _ hi av c ws H1 (by rw [World.size_alloc]; omega) (by rw [HN.out]; exact hn) k at_ a b
    rw [HN.out] at R
    have RH := Lib.hid R
    clear R H1 hk
    go_enter Tryd.func46, Tryd.ntmps46
    go_wp2_with fail
    refine RH.out.mono ?_
    rintro e w2 ⟨va, vc, rfl, hU, hb, hva⟩
    rw [opDo_length, HN.out] at hU
    rw [opDo_length, HN.out]
    go_wp2_with fail
    refine bodyPost_ret (v := .tuple #[.int .u64 (wget ws at_), .slice va n vc]) (by simp [results, Tryd.results46, go_sem]) rfl ⟨va, vc, by rw [e1.out], by rw [e2.out]; exact hU, b1.trans (hb.mono b1.size), hva.imp id (fun h b off e => by have := h b off e; rw [World.size_alloc] at this; omega)⟩
  · have e1 : Hid (dGet ws ⟨k, at_, a, b, by_⟩ = 0) := if_neg hk
    have e2 : Hid (dDo ws ⟨k, at_, a, b, by_⟩ = ws) := if_neg hk
    have U1 := Lib.hid ((H.out.below b1).mono (hi' := (w.alloc (.cells #[.int .i64 k, .int .i64 at_, .int .u64 a, .int .u64 b, .int .u64 by_] 48)).heap.size) (by rw [World.size_alloc]; omega))
    by_cases h1 : k < 1
    · clear hk
      go_enter Tryd.func46, Tryd.ntmps46
      go_wp2_with fail
      refine bodyPost_ret (v := .tuple #[.int .u64 0, .slice av n c]) (by simp [results, Tryd.results46, go_sem]) rfl ⟨av, c, by rw [e1.out], by rw [e2.out]; exact U1.out, b1, .inl rfl⟩
    · have h2 : decide (4 < k) = true := by simp; omega
      clear hk
      go_enter Tryd.func46, Tryd.ntmps46
      go_wp2_with fail
      refine bodyPost_ret (v := .tuple #[.int .u64 0, .slice av n c]) (by simp [results, Tryd.results46, go_sem]) rfl ⟨av, c, by rw [e1.out], by rw [e2.out]; exact U1.out, b1, .inl rfl⟩
theorem U64s.modS {w w' : World} {hi : Nat} {va : Option Addr} {n c : Nat} {ws : List Int} {S : Nat → Prop} (h : U64s w hi (.slice va n c) ws) (hm : Mod S w w') (hne : 0 < ws.length → ∀ b off, va = some ⟨b, off, none⟩ → ¬ S b) : U64s w' hi (.slice va n c) ws := by
  obtain ⟨a, cap, hv, hc⟩ := h.ex
  refine ⟨a, cap, hv, fun h0 => ?_⟩
  obtain ⟨b, off, ha, hb, hcs⟩ := hc h0
  cases hv
  refine ⟨b, off, ha, hb, fun j hj => ?_⟩
  rw [← hcs j hj]
  exact hm.cell (a := ⟨b, off + j, none⟩) (World.block_lt_of_cell? w _ (hcs j hj)) (hne h0 b off ha)
theorem U64s.blk_lt {w : World} {hi : Nat} {va : Option Addr} {n c : Nat} {ws : List Int} (h : U64s w hi (.slice va n c) ws) (h0 : 0 < ws.length) (b off : Nat) (e : va = some ⟨b, off, none⟩) : b < hi := by
  obtain ⟨a, cap, hv, hc⟩ := h.ex
  obtain ⟨b', off', ha, hb, hcs⟩ := hc h0
  cases hv
  rw [e] at ha
  injection ha with ha
  injection ha with ha
  omega
def cint (o : Option Value) : Int := match o with
  | some (.int _ n) => n
  | _ => 0
theorem deeds_of_nums {w : World} {hi : Nat} {v : Value} {n : Nat} (h : NumsR w hi [.i64, .i64, .u64, .u64, .u64] 5 v n) : ∃ ds g, ds.length = n ∧ DeedsB w g v ds ∧ (0 < n → g < hi) := by
  obtain ⟨a, c, rfl, hnc, hx⟩ := h.ex
  by_cases h0 : 0 < n
  · obtain ⟨b, off, rfl, hb, hcs⟩ := hx h0
    refine ⟨(List.range n).map fun i => ⟨cint (w.cell? ⟨b, off + (i * 5 + 0), none⟩), cint (w.cell? ⟨b, off + (i * 5 + 1), none⟩), cint (w.cell? ⟨b, off + (i * 5 + 2), none⟩), cint (w.cell? ⟨b, off + (i * 5 + 3), none⟩), cint (w.cell? ⟨b, off + (i * 5 + 4), none⟩)⟩, b, by simp, ⟨_, c, by simp, by simpa using hnc, fun _ => ⟨off, rfl, fun j hj i hi => ?_⟩⟩, fun _ => hb⟩
    have hj' : j < n := by simpa using hj
    simp only [List.getElem_map, List.getElem_range]
    have h5 : i = 0 ∨ i = 1 ∨ i = 2 ∨ i = 3 ∨ i = 4 := by omega
    rcases h5 with rfl | rfl | rfl | rfl | rfl <;>
      (obtain ⟨k, x, hk, hc, _⟩ := hcs j hj' _ hi; rw [Nat.add_assoc, hc]; cases hk; simp [D.cells, cint])
  · obtain rfl : n = 0 := by omega
    exact ⟨[], 0, rfl, ⟨a, c, rfl, by simp, fun hn => by simp at hn⟩, fun hn => by omega⟩
end Go.Proofs.YtippfkokgpdmdaaDoor
