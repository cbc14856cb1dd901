/-
  A script (chapter 11): what is left of it, and what it was told.
-/
import Derived.Test.YtgkobmmannkegaaStructs
import Derived.Test.YtgkobmmannkegaaDrive
import Derived.Deep.RegionLaw
import Derived.Maps.AppendAt
import Derived.BigRegion
namespace Go.Proofs.Ytgkobmmannkegaa
open Go Go.RowKit
set_option linter.unusedVariables false

/-- A slice of deeds that reads so; its cells, if any, lie in block g. -/
structure DeedsB (w : World) (g : Nat) (v : Value) (ds : List D) : Prop where
  ex : ∃ (a : Option Addr) (c : Nat), v = .slice a ds.length c ∧ ds.length ≤ c ∧ (0 < ds.length → ∃ off, a = some ⟨g, off, none⟩ ∧ ∀ j (h : j < ds.length) i, i < 5 → w.cell? ⟨g, off + j * 5 + i, none⟩ = (ds[j]).cells[i]?)
section
variable {w w' : World} {g : Nat} {v : Value} {ds : List D} {S : Nat → Prop}
theorem D.some_cell (d : D) (i : Nat) (h : i < 5) : ∃ u, d.cells[i]? = some u := ⟨_, List.getElem?_eq_getElem (by simp [D.cells]; omega)⟩
theorem DeedsB.mod (h : DeedsB w g v ds) (hm : Mod S w w') (hS : ¬ S g) : DeedsB w' g v ds := by
  obtain ⟨a, c, hv, hc, hx⟩ := h.ex
  refine ⟨a, c, hv, hc, fun hn => ?_⟩
  obtain ⟨off, ha, hcs⟩ := hx hn
  refine ⟨off, ha, fun j hj i hi => ?_⟩
  obtain ⟨u, hu⟩ := D.some_cell ds[j] i hi
  have h1 := hcs j hj i hi
  rw [hu] at h1
  rw [hm.cell (a := ⟨g, off + j * 5 + i, none⟩) (World.block_lt_of_cell? w _ h1) hS, h1, hu]
theorem DeedsB.below (h : DeedsB w g v ds) (hb : Below w.heap.size w w') : DeedsB w' g v ds := h.mod (Mod.of_below (S := fun _ => False) hb) id
theorem DeedsB.lt (h : DeedsB w g v ds) (hn : 0 < ds.length) : g < w.heap.size := by
  obtain ⟨a, c, hv, hc, hx⟩ := h.ex
  obtain ⟨off, ha, hcs⟩ := hx hn
  obtain ⟨u, hu⟩ := D.some_cell ds[0] 0 (by omega)
  have h1 := hcs 0 hn 0 (by omega)
  rw [hu] at h1
  exact World.block_lt_of_cell? w _ h1
theorem DeedsB.of_own {lo : Nat} (h : Deeds w lo v ds) : ∃ g, DeedsB w g v ds ∧ lo ≤ g := by
  rcases h.2 with ⟨rfl, h0⟩ | ⟨g, cap, cur, rfl, hb, hg, hc, hm, hs, ht⟩
  · exact ⟨lo, ⟨none, 0, by rw [h0], by omega, fun hn => by omega⟩, Nat.le_refl _⟩
  · refine ⟨g, ⟨_, cap, rfl, hc, fun hn => ⟨0, rfl, fun j hj i hi => ?_⟩⟩, hb⟩
    rw [Nat.zero_add]
    exact deeds_cell h j hj i hi
/-- The first one, its five numbers. -/
theorem DeedsB.five {d : D} {rest : List D} (h : DeedsB w g v (d :: rest)) : ∃ off c, v = .slice (some ⟨g, off, none⟩) (rest.length + 1) c ∧ rest.length + 1 ≤ c ∧
    w.cell? ⟨g, off, none⟩ = some (.int .i64 d.k) ∧ w.cell? ⟨g, off + 1, none⟩ = some (.int .i64 d.at_) ∧ w.cell? ⟨g, off + 2, none⟩ = some (.int .u64 d.a) ∧ w.cell? ⟨g, off + 3, none⟩ = some (.int .u64 d.b) ∧ w.cell? ⟨g, off + 4, none⟩ = some (.int .u64 d.by_) := by
  obtain ⟨a, c, rfl, hc, hx⟩ := h.ex
  obtain ⟨off, rfl, hcs⟩ := hx (by simp)
  have h5 := fun i hi => hcs 0 (by simp) i hi
  simp only [Nat.zero_mul, Nat.add_zero, List.getElem_cons_zero] at h5
  exact ⟨off, c, rfl, hc, h5 0 (by omega), h5 1 (by omega), h5 2 (by omega), h5 3 (by omega), h5 4 (by omega)⟩
theorem DeedsB.rest {d : D} {rest : List D} {a : Option Addr} {n c : Nat} (h : DeedsB w g (.slice a n c) (d :: rest)) {a' : Option Addr} (ha : ∀ off, a = some ⟨g, off, none⟩ → c ≠ 1 → a' = some ⟨g, off + 5, none⟩) : DeedsB w g (.slice a' rest.length (c - 1)) rest := by
  obtain ⟨_, _, hv, hc, hx⟩ := h.ex
  cases hv
  obtain ⟨off, rfl, hcs⟩ := hx (by simp)
  simp only [List.length_cons] at hc
  refine ⟨a', c - 1, rfl, by omega, fun hn => ⟨off + 5, ha off rfl (by omega), fun j hj i hi => ?_⟩⟩
  have := hcs (j + 1) (by simpa using hj) i hi
  rw [show off + 5 + j * 5 + i = off + (j + 1) * 5 + i by omega, this]
  simp
end

/-- A script: the struct in block b; what is left lies in block g; what it was told, in a row in block r. -/
structure ScriptAt (w : World) (b g r : Nat) (left : List D) (found : List Int) : Prop where
  ex : ∃ lv fv, Blk w b [lv, fv] 179 ∧ DeedsB w g lv left ∧ w.ownsRow 0 22 1 fv found.length (u64s found) ∧ (∀ k, fv.ownBlock = some k → k = r)
  apart : g ≠ b ∧ (0 < left.length → g ≠ r)
  size : r < w.heap.size
section
variable {w w' : World} {b g r : Nat} {left : List D} {found : List Int} {S : Nat → Prop}
theorem ScriptAt.mod (h : ScriptAt w b g r left found) (hm : Mod S w w') (hb : ¬ S b) (hg : ¬ S g) (hr : ¬ S r) : ScriptAt w' b g r left found := by
  obtain ⟨lv, fv, hB, hD, hO, hk⟩ := h.ex
  refine ⟨⟨lv, fv, hm.blk hB hb, hD.mod hm hg, ⟨hO.1, ?_⟩, hk⟩, h.apart, Nat.lt_of_lt_of_le h.size hm.size⟩
  rcases hO.2 with hn | ⟨q, cap, cur, rfl, h0, hh, rest⟩
  · exact .inl hn
  · refine .inr ⟨q, cap, cur, rfl, h0, ?_, rest⟩
    rw [hm.block q (Array.getElem?_eq_some_iff.1 hh).1 (by rw [hk q rfl]; exact hr)]
    exact hh
theorem ScriptAt.below (h : ScriptAt w b g r left found) (hb : Below w.heap.size w w') : ScriptAt w' b g r left found := h.mod (Mod.of_below (S := fun _ => False) hb) id id id
theorem ScriptAt.lt (h : ScriptAt w b g r left found) : b < w.heap.size ∧ r < w.heap.size ∧ (0 < left.length → g < w.heap.size) := by
  obtain ⟨lv, fv, hB, hD, hO, hk⟩ := h.ex
  exact ⟨hB.lt, h.size, fun hn => hD.lt hn⟩
end
abbrev noD : Value := .agg #[.int .i64 0, .int .i64 0, .int .u64 0, .int .u64 0, .int .u64 0]
set_option maxRecDepth 100000 in
theorem script_next_nil (w : World) : Calls Try.prog 86 #[.pointer none] w fun e w' => e = .returned (.tuple #[noD, .bool false]) ∧ Below w.heap.size w w' := by
  go_enter Try.func86, Try.ntmps86
  go_wp2_with fail
  exact bodyPost_ret (v := .tuple #[noD, .bool false]) (by simp [results, Try.results86, go_sem]) rfl ⟨rfl, (Below.refl _ _).alloc (Nat.le_refl _) _⟩
set_option maxRecDepth 100000 in
theorem script_nextN (w : World) (b g r : Nat) (found : List Int) (h : ScriptAt w b g r [] found) :
    Calls Try.prog 86 #[.pointer (some ⟨b, 0, none⟩)] w fun e w' => e = .returned (.tuple #[noD, .bool false]) ∧ Below w.heap.size w w' := by
  obtain ⟨lv, fv, hB, hD, hO, hk⟩ := h.ex
  obtain ⟨a, c, rfl, _, _⟩ := hD.ex
  have C := hB.cell
  clear hD hO hk h
  go_enter Try.func86, Try.ntmps86
  go_wp2_with fail
  exact bodyPost_ret (v := .tuple #[noD, .bool false]) (by simp [results, Try.results86, go_sem]) rfl ⟨rfl, (Below.refl _ _).alloc (Nat.le_refl _) _⟩
set_option maxRecDepth 100000 in
theorem script_nextY (w : World) (b g r : Nat) (d : D) (rest : List D) (found : List Int) (h : ScriptAt w b g r (d :: rest) found) :
    Calls Try.prog 86 #[.pointer (some ⟨b, 0, none⟩)] w fun e w' => e = .returned (.tuple #[d.val, .bool true]) ∧ Below w.heap.size w w' := by
  obtain ⟨lv, fv, hB, hD, hO, hk⟩ := h.ex
  obtain ⟨off, c, rfl, hc, c0, c1, c2, c3, c4⟩ := hD.five
  have C := hB.cell
  have hn : ((rest.length : Int) + 1 == 0) = false := by simp; omega
  clear hD hO hk h
  go_enter Try.func86, Try.ntmps86
  go_wp2_with fail
  refine bodyPost_ret (v := .tuple #[d.val, .bool true]) (by simp [results, Try.results86, go_sem]) rfl ⟨rfl, (Below.refl _ _).alloc (Nat.le_refl _) _⟩
theorem script_found_nil (w : World) : Calls Try.prog 89 #[.pointer none] w fun e w' => e = .returned (.slice none 0 0) ∧ w = w' := by
  go_enter Try.func89, Try.ntmps89
  go_wp2_with fail
  go_ret
  exact ⟨rfl, rfl⟩
theorem own_u64s {w : World} {lo hi : Nat} {v : Value} {ws : List Int} (h : w.ownsRow lo 22 1 v ws.length (u64s ws)) (hh : w.heap.size ≤ hi) : U64s w hi v ws := by
  obtain ⟨g, hR, _, hl⟩ := Row.of_own h
  exact hR.reads (fun hn => Nat.lt_of_lt_of_le (hl hn) hh)
theorem script_found (w : World) (b g r : Nat) (left : List D) (found : List Int) (h : ScriptAt w b g r left found) (hn : found.length ≤ 65000) : Calls Try.prog 89 #[.pointer (some ⟨b, 0, none⟩)] w (NewRow w found) := by
  obtain ⟨lv, fv, hB, hD, hO, hk⟩ := h.ex
  have HU := Lib.hid (own_u64s hO (Nat.le_refl _))
  have C := hB.cell
  clear hD hO hk h
  go_enter Try.func89, Try.ntmps89
  go_wp2_with fail
  refine (clone64 _ _ found _ HU.out hn).mono ?_
  rintro e w1 ⟨va, vc, rfl, ho, hb⟩
  have HO := Lib.hid ho
  clear ho
  go_wp2_with fail
  go_ret
  obtain ⟨g', hR', hg', hl⟩ := Row.of_own HO.out
  exact ⟨va, vc, g', rfl, hR', hg', hl, hb⟩

@[go_sem ↓] theorem run_eql_nil29 (w : World) (a : Option Addr) (n c : Nat) : (binOp .eql 29 (.slice a n c) (.slice none 0 0)).run Try.prog w = .ok (.bool a.isNone) w :=
  Lib.run_eql_slice_nil w 29 31 a n c 0 0 Try.underlying29
theorem dcells_split (ds : List D) (q : Nat) (hq : q < (dcells ds).length) : ∃ j i, ∃ h : j < ds.length, i < 5 ∧ q = j * 5 + i ∧ (dcells ds)[q]? = (ds[j]).cells[i]? := by
  rw [dcells_length] at hq
  have h : q / 5 < ds.length := by omega
  refine ⟨q / 5, q % 5, h, by omega, by omega, ?_⟩
  have := dcells_get ds (q / 5) h (q % 5) (by omega)
  rwa [show q / 5 * 5 + q % 5 = q by omega] at this
set_option maxRecDepth 100000 in
theorem clone_deeds (g : Nat) (v : Value) (ds : List D) (w : World) (h : DeedsB w g v ds) (hn : ds.length ≤ 65000) : Calls Try.prog 160 #[v] w fun e w' =>
    ∃ va vc, e = .returned (.slice va ds.length vc) ∧ Deeds w' w.heap.size (.slice va ds.length vc) ds ∧ Below w.heap.size w w' := by
  obtain ⟨a, c, rfl, _, hc⟩ := h.ex
  cases a with
  | none =>
    have h0 : ds = [] := by
      rcases Nat.eq_zero_or_pos ds.length with h0 | h0
      · exact List.eq_nil_of_length_eq_zero h0
      · obtain ⟨_, h1, _⟩ := hc h0; cases h1
    subst h0
    clear hc h
    go_enter Try.func160, Try.ntmps160
    go_wp2_with fail
    go_ret
    exact ⟨none, 0, rfl, World.ownsRow_nil _ _ _ _, Below.refl _ _⟩
  | some ad =>
    obtain ⟨i0, hi, hz0, hz1, hz2⟩ := info_parts info31
    have hcell : ∀ q u, (dcells ds)[q]? = some u → (w.alloc (.cells #[] 31)).cell? (ad.add q) = some u := by
      intro q u hu
      have hq := (List.getElem?_eq_some_iff.1 hu).1
      obtain ⟨j, i, hj, hi, rfl, e⟩ := dcells_split ds q hq
      obtain ⟨off, h1, hcs⟩ := hc (by omega)
      cases h1
      have hx := hcs j hj i hi
      rw [← e, hu] at hx
      rw [Addr.add_lit, World.cell?_alloc_lt _ _ _ (World.block_lt_of_cell? w ⟨g, off + (j * 5 + i), none⟩ (by rw [← Nat.add_assoc]; exact hx)), ← Nat.add_assoc, hx]
    have HC := Lib.hid hcell
    clear hcell hc h
    go_enter Try.func160, Try.ntmps160
    go_wp2_with (at_builtin; refine wpList_append_own _ rfl _ _ 29 rfl w.heap.size 31 i0 (.agg #[.int .i64 0, .int .i64 0, .int .u64 0, .int .u64 0, .int .u64 0]) 5 40 Try.underlying29 hi hz0 hz1 hz2 rfl (by decide) (.slice (some ⟨w.heap.size, 0, none⟩) 0 0) 0 [] rfl (World.ownsRow_made w #[] 0 (Nat.le_refl _) (by unfold maxLen; omega) rfl) ad ds.length c (dcells ds) rfl ?c1 ?c2 ?c3 ?c4 ?c5 ?c6 ?_)
    case c1 => rw [dcells_length]
    case c2 => exact HC.out
    case c3 => exact oneCell_dcells ds
    case c4 => unfold maxLen; omega
    case c5 => omega
    case c6 => simp
    intro v' w1 hown hg _
    have HO := Lib.hid hown
    have HG := Lib.hid hg
    clear hown hg
    obtain ⟨va, vc, rfl⟩ := owns_shape HO.out
    go_wp2_with fail
    go_ret
    refine ⟨va, vc, by simp, by have := HO.out; simpa using this, ?_⟩
    exact ((Below.refl _ w).alloc (Nat.le_refl _) _).grown HG.out (by simp) (fun k hk => by simp [Value.ownBlock] at hk; omega)
theorem new_script (g : Nat) (v : Value) (ds : List D) (w : World) (h : DeedsB w g v ds) (hn : ds.length ≤ 65000) : Calls Try.prog 85 #[v] w fun e w' =>
    ∃ b g', e = .returned (.pointer (some ⟨b, 0, none⟩)) ∧ ScriptAt w' b g' b ds [] ∧ w.heap.size ≤ b ∧ w.heap.size ≤ g' ∧ Below w.heap.size w w' := by
  have H := Lib.hid h
  obtain ⟨a, c, rfl, _, _⟩ := h.ex
  clear h
  go_enter Try.func85, Try.ntmps85
  go_wp2_with fail
  refine (clone_deeds _ _ ds _ H.out hn).mono ?_
  rintro e w1 ⟨va, vc, rfl, hD, hb⟩
  obtain ⟨g', hB, hg'⟩ := DeedsB.of_own hD
  have HB := Lib.hid hB
  clear hD hB
  go_wp2_with fail
  go_ret
  have hz := hb.size
  by_cases h0 : 0 < ds.length
  · have hlt := HB.out.lt h0
    exact ⟨w1.heap.size, g', rfl, ⟨⟨_, _, Blk.new w1 [.slice va ds.length vc, .slice none 0 0] 179, HB.out.below ((Below.refl _ _).alloc (Nat.le_refl _) _), World.ownsRow_nil _ _ _ _, fun k hk => by simp [Value.ownBlock] at hk⟩, ⟨by omega, fun _ => by omega⟩, by simp⟩, hz, hg', hb.alloc hz _⟩
  · have hn0 : ds = [] := List.eq_nil_of_length_eq_zero (by omega)
    subst hn0
    obtain ⟨_, _, _, hcc, _⟩ := HB.out.ex
    exact ⟨w1.heap.size, w1.heap.size + 1, rfl, ⟨⟨_, _, Blk.new w1 [.slice va 0 vc, .slice none 0 0] 179, ⟨va, vc, rfl, by simp, fun hn => by simp at hn⟩, World.ownsRow_nil _ _ _ _, fun k hk => by simp [Value.ownBlock] at hk⟩, ⟨by omega, fun hn => by simp at hn⟩, by simp⟩, hz, by omega, hb.alloc hz _⟩
end Go.Proofs.Ytgkobmmannkegaa
