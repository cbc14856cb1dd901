/-
  A ledger of acts (chapter 11).
-/
import Derived.Test.YtgkobmmannkegaaRecs
import Derived.Test.YtgkobmmannkegaaScriptTell
import Derived.Test.YtgkobmmannkegaaScriptAwake
namespace Go.Proofs.Ytgkobmmannkegaa
open Go Go.RowKit
set_option linter.unusedVariables false

structure Act4 where
  kind : Int
  handle : Int
  dl : Int
  step : Int
  deriving DecidableEq
abbrev Act4.cells (x : Act4) : List Value := [.int .i64 x.kind, .int .u64 x.handle, .int .i64 x.dl, .int .i64 x.step]
def actR : Rec Act4 := { cells := Act4.cells, size := 4, len := fun _ => rfl, one := fun a u hu => by simp at hu; rcases hu with rfl | rfl | rfl | rfl <;> rfl, pos := by decide }
abbrev actZ : Value := .agg #[.int .i64 0, .int .u64 0, .int .i64 0, .int .i64 0]
theorem info119 : (Try.prog.info? 119).map (fun i => (i.zero, i.size, i.bytes)) = some (some actZ, 4, 32) := by kernel_rfl
/-- A ledger: the struct in block b, how many deeds, its acts in a row in block r. -/
structure LedgerAt (w : World) (b r : Nat) (n : Int) (acts : List Act4) : Prop where
  ex : ∃ av, Blk w b [.int .i64 n, av] 117 ∧ RowOf actR 119 w 0 r av acts
  size : r < w.heap.size
section
variable {w w' : World} {b r : Nat} {n : Int} {acts : List Act4} {S : Nat → Prop}
theorem LedgerAt.mod (h : LedgerAt w b r n acts) (hm : Mod S w w') (hb : ¬ S b) (hr : ¬ S r) : LedgerAt w' b r n acts := by
  obtain ⟨av, hB, hR⟩ := h.ex
  exact ⟨⟨av, hm.blk hB hb, hR.mod hm hr⟩, Nat.lt_of_lt_of_le h.size hm.size⟩
theorem LedgerAt.below (h : LedgerAt w b r n acts) (hb : Below w.heap.size w w') : LedgerAt w' b r n acts := h.mod (Mod.of_below (S := fun _ => False) hb) id id
theorem LedgerAt.lt (h : LedgerAt w b r n acts) : b < w.heap.size ∧ r < w.heap.size := ⟨by obtain ⟨av, hB, _⟩ := h.ex; exact hB.lt, h.size⟩
end
theorem note_done {w w3 : World} {b r r3 : Nat} {n : Int} {acts : List Act4} {x : Act4} {av v3 : Value} {o : Obj} (hs : r < w.heap.size) (hR : RowOf actR 119 w 0 r av acts) (hN : ∀ k, av.ownBlock = some k → k ≠ b)
    (hO3 : RowOf actR 119 w3 0 r3 v3 (acts ++ [x])) (hg3 : (w.alloc o).drew.grownBy w3 av.ownBlock) (hr3 : av.ownBlock = some r3 ∨ r3 = (w.alloc o).drew.heap.size) (hz3 : r3 < w3.heap.size) (B3 : Blk w3 b [.int .i64 n, av] 117) :
    ∃ r', LedgerAt (w3.setCell ⟨b, 1, none⟩ v3) b r' n (acts ++ [x]) ∧ (r' = r ∨ w.heap.size ≤ r') ∧ Mod (fun q => q = b ∨ q = r) w (w3.setCell ⟨b, 1, none⟩ v3) := by
  have M1 : Mod (fun k => k = b ∨ k = r) w w3 := (((Mod.refl _ _).alloc _).drew).grown hg3 (fun k h _ => .inr (hR.2 k h))
  have hne := own_ne hO3.1 B3 (by decide)
  refine ⟨r3, ⟨⟨v3, B3.set 1 v3, hO3.mod' (Mod.one _ _ _ _) hne⟩, by simpa using hz3⟩, ?_, M1.setCell (a := ⟨b, 1, none⟩) (fun _ => .inl rfl) _⟩
  rcases hr3 with e | e
  · exact .inl (hR.2 r3 e)
  · right; rw [e]; simp
theorem ledger_step_nil (w : World) : Calls Try.prog 114 #[.pointer none] w fun e w' => e = .returned (.tuple #[]) ∧ w = w' := by
  go_enter Try.func114, Try.ntmps114
  go_wp2_with fail
  go_end0
  exact ⟨rfl, rfl⟩
theorem ledger_step (w : World) (b r : Nat) (n : Nat) (acts : List Act4) (h : LedgerAt w b r n acts) (hn : n ≤ 60000) :
    Calls Try.prog 114 #[.pointer (some ⟨b, 0, none⟩)] w fun e w' => e = .returned (.tuple #[]) ∧ LedgerAt w' b r ((n + 1 : Nat) : Int) acts ∧ Mod (fun k => k = b) w w' := by
  obtain ⟨av, hB, hR⟩ := h.ex
  have hs := h.size
  have HR := Lib.hid hR
  have C := hB.cell
  have F := hB.frozen
  have HN := Lib.hid (own_ne hR.1 hB (by decide))
  have HB := Lib.hid hB
  clear hR h
  go_enter Try.func114, Try.ntmps114
  go_wp2_with fail
  go_end0
  refine ⟨rfl, ⟨⟨av, ?_, HR.out.mod' (Mod.one _ _ _ _) HN.out⟩, by simpa using hs⟩, Mod.one _ _ _ _⟩
  have := HB.out.set 0 (.int .i64 ((n : Int) + 1))
  simpa using this
theorem ledger_note_nil (k h d : Int) (w : World) : Calls Try.prog 115 #[.pointer none, .int .i64 k, .int .u64 h, .int .i64 d] w fun e w' => e = .returned (.tuple #[]) ∧ w = w' := by
  go_enter Try.func115, Try.ntmps115
  go_wp2_with fail
  go_end0
  exact ⟨rfl, rfl⟩
set_option maxHeartbeats 4000000 in
set_option maxRecDepth 100000 in
theorem ledger_note (w : World) (b r : Nat) (n : Int) (acts : List Act4) (h : LedgerAt w b r n acts) (hn : acts.length ≤ 60000) (k hd d : Int) :
    Calls Try.prog 115 #[.pointer (some ⟨b, 0, none⟩), .int .i64 k, .int .u64 hd, .int .i64 d] w fun e w' => e = .returned (.tuple #[]) ∧ ∃ r', LedgerAt w' b r' n (acts ++ [⟨k, hd, d, n⟩]) ∧ (r' = r ∨ w.heap.size ≤ r') ∧ Mod (fun q => q = b ∨ q = r) w w' := by
  obtain ⟨av, hB, hR⟩ := h.ex
  obtain ⟨fa, fc, rfl⟩ := owns_shape hR.1
  have hs := h.size
  have HR := Lib.hid hR
  have C := hB.cell
  have F := hB.frozen
  have HN := Lib.hid (own_ne hR.1 hB (by decide))
  have HB := Lib.hid hB
  clear hR h hB
  go_enter Try.func115, Try.ntmps115
  go_wp2_with fail
  go_region_law ((refine step_append_rec (R := actR) (by rfl) (.tmp 14) (.tmp 23) 114 119 actZ 32 (by rfl) Try.underlying114 info119 rfl (by omega) 0 r _ acts (by rfl) ((HR.out.below ((Below.refl _ _).alloc (Nat.le_refl _) _)).below (Below.refl _ _).drew) ⟨k, hd, d, n⟩ w.heap.size (by rfl) ((Blk.new w [.int .i64 k, .int .u64 hd, .int .i64 d, .int .i64 n] 119).drew) hn (Nat.zero_le _) ?_; intro va vc w3 r3 hO3 hg3 hr3 hz3; have B3 := grown_blk hg3 ((HB.out.alloc _).drew) HN.out; have C3 := B3.cell; have F3 := B3.frozen))
  all_goals
    go_end0
    exact ⟨rfl, note_done hs HR.out HN.out hO3 hg3 hr3 hz3 B3⟩
@[go_sem ↓] theorem run_eql_nil114 (w : World) (a : Option Addr) (n c : Nat) : (binOp .eql 114 (.slice a n c) (.slice none 0 0)).run Try.prog w = .ok (.bool a.isNone) w :=
  Lib.run_eql_slice_nil w 114 119 a n c 0 0 Try.underlying114
set_option maxRecDepth 100000 in
theorem clone_acts (g : Nat) (v : Value) (l : List _) (w : World) (h : RecB actR w g v l) (hn : l.length ≤ 60000) : Calls Try.prog 171 #[v] w fun e w' =>
    ∃ va vc, e = .returned (.slice va l.length vc) ∧ w'.ownsRow w.heap.size 119 (actR).size (.slice va l.length vc) l.length (rcells actR l) ∧ Below w.heap.size w w' := by
  obtain ⟨a, c, rfl, _, hc⟩ := h.ex
  cases a with
  | none =>
    have h0 : l = [] := by
      rcases Nat.eq_zero_or_pos l.length with h0 | h0
      · exact List.eq_nil_of_length_eq_zero h0
      · obtain ⟨_, h1, _⟩ := hc h0; cases h1
    subst h0
    clear hc h
    go_enter Try.func171, Try.ntmps171
    go_wp2_with fail
    go_ret
    exact ⟨none, 0, rfl, World.ownsRow_nil _ _ _ _, Below.refl _ _⟩
  | some ad =>
    obtain ⟨i0, hi, hz0, hz1, hz2⟩ := info_parts info119
    have hcell : ∀ q u, (rcells actR l)[q]? = some u → (w.alloc (.cells #[] 119)).cell? (ad.add q) = some u := by
      intro q u hu
      have hq := (List.getElem?_eq_some_iff.1 hu).1
      obtain ⟨j, i, hj, hi, rfl, e⟩ := rcells_split actR l q hq
      obtain ⟨off, h1, hcs⟩ := hc (by omega)
      cases h1
      have hx := hcs j hj i hi
      rw [← e, hu] at hx
      rw [Addr.add_lit, World.cell?_alloc_lt _ _ _ (World.block_lt_of_cell? w ⟨g, off + (j * (actR).size + i), none⟩ (by rw [← Nat.add_assoc]; exact hx)), ← Nat.add_assoc, hx]
    have hb : (0 + l.length) * 32 ≤ 60000 * 32 := Nat.mul_le_mul_right _ (by omega)
    have HC := Lib.hid hcell
    have HB := Lib.hid hb
    clear hcell hc h hb
    go_enter Try.func171, Try.ntmps171
    go_wp2_with (at_builtin; refine wpList_append_own _ rfl _ _ 114 rfl w.heap.size 119 i0 actZ (actR).size 32 Try.underlying114 hi hz0 hz1 hz2 rfl (by decide) (.slice (some ⟨w.heap.size, 0, none⟩) 0 0) 0 [] rfl (World.ownsRow_made w #[] 0 (Nat.le_refl _) (by unfold maxLen; omega) (by simp)) ad l.length c (rcells actR l) rfl ?c1 ?c2 ?c3 ?c4 ?c5 ?c6 ?_)
    case c1 => rw [rcells_length]
    case c2 => exact HC.out
    case c3 => exact rcells_oneCell actR l
    case c4 => unfold maxLen; omega
    case c5 => have := HB.out; omega
    case c6 => simp
    intro v' w1 hown hg _
    have HO := Lib.hid hown
    have HG := Lib.hid hg
    clear hown hg
    obtain ⟨va, vc, rfl⟩ := owns_shape HO.out
    go_wp2_with fail
    go_ret
    refine ⟨va, vc, by simp, by have := HO.out; simpa using this, ?_⟩
    exact ((Below.refl _ w).alloc (Nat.le_refl _) _).grown HG.out (by simp) (fun k hk => by simp [Value.ownBlock] at hk; omega)

theorem ledger_acts_nil (w : World) : Calls Try.prog 117 #[.pointer none] w fun e w' => e = .returned (.slice none 0 0) ∧ w = w' := by
  go_enter Try.func117, Try.ntmps117
  go_wp2_with fail
  go_ret
  exact ⟨rfl, rfl⟩
theorem ledger_acts (w : World) (b r : Nat) (n : Int) (acts : List Act4) (h : LedgerAt w b r n acts) (hn : acts.length ≤ 60000) : Calls Try.prog 117 #[.pointer (some ⟨b, 0, none⟩)] w fun e w' =>
    ∃ va vc g, e = .returned (.slice va acts.length vc) ∧ RecB actR w' g (.slice va acts.length vc) acts ∧ Below w.heap.size w w' := by
  obtain ⟨av, hB, hR⟩ := h.ex
  have HR := Lib.hid hR.recB
  have C := hB.cell
  clear hR h
  go_enter Try.func117, Try.ntmps117
  go_wp2_with fail
  refine (clone_acts _ _ acts _ HR.out hn).mono ?_
  rintro e w1 ⟨va, vc, rfl, ho, hb⟩
  have HO := Lib.hid ho
  clear ho
  go_wp2_with fail
  go_ret
  obtain ⟨g, hG, _⟩ := RecB.of_own HO.out
  exact ⟨va, vc, g, rfl, hG, hb⟩
theorem und119 : Try.prog.underlying 119 = some (.struct (Try.prog.fieldsOf 119)) := by kernel_rfl
theorem stood119 : Try.prog.stoodInHeld 119 = false := by kernel_rfl
@[go_sem] theorem eqg119 : Try.prog.eqGuardType Try.prog.depth 119 = false := by kernel_rfl
def actEq (a b c d a' b' c' d' : Int) : Bool := a == a' && (b == b' && (c == c' && d == d'))
theorem Act4.beq (x y : Act4) : actEq x.kind x.handle x.dl x.step y.kind y.handle y.dl y.step = decide (x = y) := by
  cases x; cases y
  rw [Bool.eq_iff_iff]
  simp [actEq]
theorem eqIn_act (a b c d a' b' c' d' : Int) (w : World) :
    (Op.equalIn 10000 119 (.agg #[.int .i64 a, .int .u64 b, .int .i64 c, .int .i64 d]) (.agg #[.int .i64 a', .int .u64 b', .int .i64 c', .int .i64 d'])).run Try.prog w = .ok (actEq a b c d a' b' c' d') w := by
  rw [run_equalIn_struct w 9999 119 _ _ und119 stood119, actEq]
  simp only [Program.fieldsOf, Try.underlying119]
  simp [Op.eqFields, go_sem]
  (repeat' split) <;> simp_all
@[go_sem ↓] theorem run_neq_act (a b c d a' b' c' d' : Int) (w : World) :
    (binOp .neq 119 (.agg #[.int .i64 a, .int .u64 b, .int .i64 c, .int .i64 d]) (.agg #[.int .i64 a', .int .u64 b', .int .i64 c', .int .i64 d'])).run Try.prog w = .ok (.bool (!actEq a b c d a' b' c' d')) w := by
  rw [run_neq_struct, eqIn_act]; rfl
end Go.Proofs.Ytgkobmmannkegaa
