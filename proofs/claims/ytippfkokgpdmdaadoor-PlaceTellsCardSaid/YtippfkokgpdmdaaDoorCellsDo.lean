/-
  An access of any kind, as the document does it in a list (sundialref06.Do), and as the laws do it to a memory (sundiallaw06.do); the fixed course of chapter 6.
-/
import Derived.Test.YtippfkokgpdmdaaDoorCells
import Derived.Test.YtippfkokgpdmdaaDoorPlan
namespace Go.Proofs.YtippfkokgpdmdaaDoor
open Go Go.RowKit
set_option linter.unusedVariables false

theorem wset_self (ws : List Int) (at_ : Int) : wset ws at_ (wget ws at_) = ws := by
  unfold wset wget
  split
  · rename_i h
    have h2 : at_.toNat < ws.length := by omega
    simp [List.getD, h2]
  · rfl
/-- What Do hands back. -/
abbrev Done (w : World) (v0 : Option Addr) (x : Int) (ws : List Int) (e : Ending) (w' : World) : Prop :=
  ∃ va vc, e = .returned (.tuple #[.int .u64 x, .slice va ws.length vc]) ∧ U64s w' w'.heap.size (.slice va ws.length vc) ws ∧ Below w.heap.size w w' ∧ (va = v0 ∨ ∀ b off, va = some ⟨b, off, none⟩ → w.heap.size ≤ b)
abbrev opV (k at_ a b : Int) : Value := .agg #[.int .i64 k, .int .i64 at_, .int .u64 a, .int .u64 b]
theorem done_row {w w' : World} {g : Nat} {va v0 : Option Addr} {vc : Nat} {ws us : List Int} (hl : ws.length = us.length) (x : Int) (hR : Row w' g (.slice va us.length vc) ws) (hg : g < w'.heap.size) (hb : Below w.heap.size w w') (hv : ∀ b off, va = some ⟨b, off, none⟩ → w.heap.size ≤ b) :
    Done w v0 x ws (.returned (.tuple #[.int .u64 x, .slice va us.length vc])) w' := ⟨va, vc, by rw [hl], by rw [← hl] at hR; exact hR.reads (fun _ => hg), hb, .inr hv⟩
set_option maxHeartbeats 1000000 in
set_option maxRecDepth 100000 in
theorem rdo_calls (w : World) (hi : Nat) (av : Option Addr) (c : Nat) (ws : List Int) (h : U64s w hi (.slice av ws.length c) ws) (hhi : hi ≤ w.heap.size) (hn : ws.length ≤ 65000) (k at_ a b : Int) :
    Calls Tryd.prog 69 #[.slice av ws.length c, opV k at_ a b] w (Done w av (wget ws at_) (opDo ws k at_ a b)) := by
  by_cases hat : 0 ≤ at_ ∧ at_ < ws.length
  · obtain ⟨j, rfl⟩ : ∃ j : Nat, at_ = j := ⟨at_.toNat, by omega⟩
    have hj : j < ws.length := by omega
    obtain ⟨bs, off, rfl, hbs, hcs⟩ := u64s_cells h (by omega)
    have hcj := hcs j hj
    obtain ⟨i0, hi0, hz0, hz1, hz2⟩ := info_parts info22
    have hcell : ∀ i u, (u64s ws)[i]? = some u → ((w.alloc (.cells #[.int .i64 k, .int .i64 j, .int .u64 a, .int .u64 b] 86)).alloc (.cells #[] 22)).cell? ((⟨bs, off, none⟩ : Addr).add i) = some u := by
      intro i u hu
      have hi : i < ws.length := by simpa using (List.getElem?_eq_some_iff.1 hu).1
      have hc := hcs i hi
      have hlt := World.block_lt_of_cell? w _ hc
      rw [Addr.add_lit, World.cell?_alloc_lt _ _ _ (by simp; exact Nat.lt_succ_of_lt hlt), World.cell?_alloc_lt _ _ _ hlt, hc, ← hu, u64s_get ws i hi]
    have HC := Lib.hid hcell
    have hblt := World.block_lt_of_cell? w _ hcj
    simp only at hblt
    have eg : wget ws (j : Int) = ws[j] := wget_nat hj
    have ed : opDo ws k j a b = ws.set j (opNew k ws[j] a b) := by unfold opDo; rw [eg, wset_nat hj]
    rw [eg, ed]
    have f1 : decide (((ws.length : Nat) : Int) ≤ (j : Int)) = false := by simp; omega
    have P0 := Blk.new w [.int .i64 k, .int .i64 j, .int .u64 a, .int .u64 b] 86
    have C0 := P0.cell
    generalize hxe : ws[j] = x at *
    have HX := Lib.hid hxe
    clear hat h hcs hcell eg ed hxe
    go_enter Tryd.func69, Tryd.ntmps69
    go_wp2_with (at_builtin; refine wpList_append_own _ rfl (.tmp 19) (.tmp 20) 52 rfl (w.heap.size + 1) 22 i0 (.int .u64 0) 1 8 Tryd.underlying52 hi0 hz0 hz1 hz2 rfl (by decide) (.slice (some ⟨w.heap.size + 1, 0, none⟩) 0 0) 0 [] rfl (by simpa using World.ownsRow_made (w.alloc (.cells #[.int .i64 k, .int .i64 j, .int .u64 a, .int .u64 b] 86)) #[] 0 (base := w.heap.size + 1) (e := 22) (size := 1) (by simp) (by unfold maxLen; omega) rfl) ⟨bs, off, none⟩ ws.length c (u64s ws) rfl ?c1 ?c2 ?c3 ?c4 ?c5 ?c6 ?_)
    case c1 => simp
    case c2 => exact HC.out
    case c3 => exact u64s_one ws
    case c4 => unfold maxLen; omega
    case c5 => omega
    case c6 => simp
    intro v' w1 hown hg _
    obtain ⟨va, vc, rfl⟩ := owns_shape hown
    have hown' : w1.ownsRow (w.heap.size + 1) 22 1 (.slice va ws.length vc) ws.length (u64s ws) := by simpa using hown
    have hb1 : Below (w.heap.size + 1) (w.alloc (.cells #[.int .i64 k, .int .i64 j, .int .u64 a, .int .u64 b] 86)) w1 := ((Below.refl _ _).alloc (by simp) _).grown hg (by simp) (fun k hk => by simp [Value.ownBlock] at hk; omega)
    obtain ⟨g', hR', hg', hl⟩ := Row.of_own hown'
    have hgl := hl (by omega)
    obtain ⟨vc', hv', _⟩ := hR'.addr (by omega)
    cases hv'
    have P1 := P0.below hb1 (by omega)
    have C1 := P1.cell
    have cj := (hb1.cell (p := ⟨bs, off + j, none⟩) (Nat.lt_succ_of_lt hblt)).trans ((World.cell?_alloc_lt _ _ _ hblt).trans hcj)
    have cr := hR'.cell j hj
    have fr := hR'.frozen (by omega) j
    have HR := Lib.hid hR'
    have HRS := Lib.hid (fun y => hR'.set j hj y)
    have W1 : Below w.heap.size w w1 := ((Below.refl _ _).alloc (Nat.le_refl _) _).trans (hb1.mono (by omega))
    clear hown hown' hg hl hR' C0 P0 HC
    have NS : Hid (∀ y, Done w (some ⟨bs, off, none⟩) x (ws.set j y) (.returned (.tuple #[.int .u64 x, .slice (some ⟨g', 0, none⟩) ws.length vc])) (w1.setCell ⟨g', j, none⟩ (.int .u64 y))) := fun y => done_row (by simp) x (HRS.out y) (by simpa using hgl) (W1.setCell (p := ⟨g', j, none⟩) (show w.heap.size ≤ g' by omega) _) (fun b off h => by cases h; omega)
    have NO : Hid (Done w (some ⟨bs, off, none⟩) x (ws.set j x) (.returned (.tuple #[.int .u64 x, .slice (some ⟨g', 0, none⟩) ws.length vc])) w1) := by
      have e : ws.set j x = ws := by rw [← HX.out]; simp
      show Done _ _ _ _ _ _
      rw [e]
      exact done_row rfl x HR.out hgl W1 (fun b off h => by cases h; omega)
    by_cases h2 : k = 2
    · subst h2
      have E : Hid (opNew 2 x a b = a) := rfl
      go_wp2_with fail
      go_ret2
      rw [E.out]
      exact NS.out a
    · by_cases h3 : k = 3
      · subst h3
        by_cases hx : x = a
        · have hxa : (x == a) = true := by simpa using hx
          have E : Hid (opNew 3 x a b = b) := by show _ = _; simp [opNew, swp, hx]
          have HXA := Lib.hid hx
          clear hx
          go_wp2_with fail
          go_ret2
          rw [E.out]
          exact NS.out b
        · have hxa : (x == a) = false := by simpa using hx
          have E : Hid (opNew 3 x a b = x) := by show _ = _; simp [opNew, swp, hx]
          have HXA := Lib.hid hx
          clear hx
          go_wp2_with fail
          go_ret2
          rw [E.out]
          exact NO.out
      · by_cases h4 : k = 4
        · subst h4
          have E : Hid (opNew 4 x a b = (x + a) % 18446744073709551616) := rfl
          go_wp2_with fail
          go_ret2
          rw [E.out]
          exact NS.out _
        · have E : Hid (opNew k x a b = x) := by show _ = _; simp [opNew, h2, h3, h4]
          have b2 : (k == 2) = false := by simpa using h2
          have b3 : (k == 3) = false := by simpa using h3
          have b4 : (k == 4) = false := by simpa using h4
          clear h2 h3 h4
          go_wp2_with fail
          go_ret2
          rw [E.out]
          exact NO.out
  · rw [wget_out hat, opDo, wset_out _ hat]
    have P0 := Blk.new w [.int .i64 k, .int .i64 at_, .int .u64 a, .int .u64 b] 86
    have C0 := P0.cell
    have HU := Lib.hid h
    clear h P0
    by_cases h0 : at_ < 0
    · clear hat
      go_enter Tryd.func69, Tryd.ntmps69
      go_wp2_with fail
      go_ret2
      exact ⟨av, c, rfl, (HU.out.below ((Below.refl _ _).alloc (Nat.le_refl _) _)).mono (by simp; omega), (Below.refl _ _).alloc (Nat.le_refl _) _, .inl rfl⟩
    · have h1 : decide (((ws.length : Nat) : Int) ≤ at_) = true := by simp; omega
      clear hat
      go_enter Tryd.func69, Tryd.ntmps69
      go_wp2_with fail
      go_ret2
      exact ⟨av, c, rfl, (HU.out.below ((Below.refl _ _).alloc (Nat.le_refl _) _)).mono (by simp; omega), (Below.refl _ _).alloc (Nat.le_refl _) _, .inl rfl⟩

theorem Turned.alloc {w : World} {b g : Nat} {ws : List Int} {at_ x : Int} {o : Obj} {e : Ending} {w' : World} (h : Turned (w.alloc o) b g ws at_ x e w') (hg : g < w.heap.size) : Turned w b g ws at_ x e w' :=
  ⟨h.1, h.2.1, ((Mod.refl _ _).alloc o).trans' h.2.2⟩
theorem word_nil (at_ : Int) (w : World) : Calls Tryd.prog 93 #[.pointer none, .int .i64 at_] w fun e w' => e = .returned (.pointer none) ∧ w = w' := by
  by_cases h0 : at_ < 0
  · go_enter Tryd.func93, Tryd.ntmps93
    go_wp2_with fail
    go_ret
    exact ⟨rfl, rfl⟩
  · have h1 : decide ((0 : Int) ≤ at_) = true := by simp; omega
    go_enter Tryd.func93, Tryd.ntmps93
    go_wp2_with (go_at_call 105; refine (cells_len_nil _).mono ?_; rintro e w' ⟨rfl, rfl⟩)
    go_ret
    exact ⟨rfl, rfl⟩
theorem turn_nil (at_ : Int) (f : Value) (w : World) : Calls Tryd.prog 94 #[.pointer none, .int .i64 at_, f] w fun e w' => e = .returned (.int .u64 0) ∧ w = w' := by
  go_enter Tryd.func94, Tryd.ntmps94
  go_wp2_with (go_at_call 93; refine (word_nil _ _).mono ?_; rintro e w' ⟨rfl, rfl⟩)
  go_ret
  exact ⟨rfl, rfl⟩
theorem store_nil (at_ x : Int) : Gives 80 #[.pointer none, .int .i64 at_, .int .u64 x] (.int .u64 0) := by
  intro w
  go_enter Tryd.func80, Tryd.ntmps80
  go_wp2_with (go_at_call 94; refine (turn_nil _ _ _).mono ?_; rintro e w' ⟨rfl, rfl⟩)
  go_ret
  exact ⟨rfl, (Below.refl _ _).alloc (Nat.le_refl _) _⟩
theorem add_nil (at_ x : Int) : Gives 84 #[.pointer none, .int .i64 at_, .int .u64 x] (.int .u64 0) := by
  intro w
  go_enter Tryd.func84, Tryd.ntmps84
  go_wp2_with (go_at_call 94; refine (turn_nil _ _ _).mono ?_; rintro e w' ⟨rfl, rfl⟩)
  go_ret
  exact ⟨rfl, (Below.refl _ _).alloc (Nat.le_refl _) _⟩
theorem swap_nil (at_ o x : Int) : Gives 82 #[.pointer none, .int .i64 at_, .int .u64 o, .int .u64 x] (.int .u64 0) := by
  intro w
  go_enter Tryd.func82, Tryd.ntmps82
  go_wp2_with (go_at_call 94; refine (turn_nil _ _ _).mono ?_; rintro e w' ⟨rfl, rfl⟩)
  go_ret
  exact ⟨rfl, ((Below.refl _ _).alloc (Nat.le_refl _) _).alloc (by simp) _⟩
end Go.Proofs.YtippfkokgpdmdaaDoor
