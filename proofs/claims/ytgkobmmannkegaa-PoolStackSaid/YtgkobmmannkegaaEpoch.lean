/-
  Advancing the epoch (chapter 14): its task as a plain machine, in memory one block; the document's answer; that they agree.
-/
import Derived.Test.YtgkobmmannkegaaDrive
namespace Go.Proofs.Ytgkobmmannkegaa
open Go Go.RowKit
set_option linter.unusedVariables false

/-- A task that lies in one block. -/
theorem mach_block {S : Type} {M : Mach S} {cells : S → List Value} {ty : TypeId} {N T : FuncId} (lo : Nat)
    (hY : ∀ (w : World) (b : Nat) (s : S), Blk w b (cells s) ty → M.more s = true → Calls Try.prog N #[.pointer (some ⟨b, 0, none⟩)] w fun e w' => e = .returned (.tuple #[(M.deed s).val, .bool true]) ∧ Below w.heap.size w w')
    (hN : ∀ (w : World) (b : Nat) (s : S), Blk w b (cells s) ty → M.more s = false → Calls Try.prog N #[.pointer (some ⟨b, 0, none⟩)] w fun e w' => e = .returned (.tuple #[.agg #[.int .i64 0, .int .i64 0, .int .u64 0, .int .u64 0, .int .u64 0], .bool false]) ∧ Below w.heap.size w w')
    (hT : ∀ (w : World) (b : Nat) (s : S) (x : Int), Blk w b (cells s) ty → Calls Try.prog T #[.pointer (some ⟨b, 0, none⟩), .int .u64 x] w fun e w' => e = .returned (.tuple #[]) ∧ Blk w' b (cells (M.tell s x)) ty ∧ Mod (fun k => k = b) w w') :
    ∀ b, MachRep N T (.pointer (some ⟨b, 0, none⟩)) M (fun w s => lo < b ∧ Blk w b (cells s) ty) (fun k => k = b ∧ lo < k) := fun b =>
  { keep := fun w w' s X h hm hX => ⟨h.1, hm.blk h.2 (hX b ⟨rfl, h.1⟩)⟩
    nextY := fun w s h hm => hY w b s h.2 hm
    nextN := fun w s h hm => hN w b s h.2 hm
    tell := fun w s x h => (hT w b s x h.2).mono fun e w' ⟨h1, h2, h3⟩ => ⟨h1, ⟨h.1, h2⟩, h3.mono (fun k _ hk => ⟨hk, hk ▸ h.1⟩)⟩ }

structure EpS where
  at_ : Int
  i : Int
  e : Int
  won : Bool
def epU (x : Int) : Int := IntKind.u64.wrap (x + 1)
/-- (*epoch.Advancer).Tell. -/
def epTell (T : Int) (s : EpS) (x : Int) : EpS :=
  if s.at_ = 0 then s
  else if s.at_ = 1 then (if T ≤ s.i then { s with e := x, at_ := 3 } else { s with e := x, at_ := 2 })
  else if s.at_ = 2 then
    (if x = 0 ∨ x = s.e then (if T ≤ wrap64 (s.i + 1) then { s with i := wrap64 (s.i + 1), at_ := 3 } else { s with i := wrap64 (s.i + 1) }) else { s with i := wrap64 (s.i + 1), at_ := 0 })
  else if s.at_ = 3 then { s with won := decide (x = s.e), at_ := 0 }
  else { s with at_ := 0 }
def epDeed (s : EpS) : D := if s.at_ = 1 then ⟨1, 0, 0, 0, 0⟩ else if s.at_ = 2 then ⟨1, wrap64 (4 + s.i), 0, 0, 0⟩ else ⟨3, 0, s.e, epU s.e, 0⟩
def epM (T : Int) : Mach EpS := { more := fun s => decide (s.at_ = 1 ∨ s.at_ = 2 ∨ s.at_ = 3), deed := epDeed, tell := epTell T }
abbrev epCells (T S L G : Int) (s : EpS) : List Value := [.int .i64 T, .int .i64 S, .int .i64 L, .int .u64 G, .int .i64 s.at_, .int .i64 s.i, .int .u64 s.e, .bool s.won]

section
variable (T S L G : Int)
theorem ep_new (w : World) : Calls Try.prog 71 #[planV T S L G] w fun e w' => ∃ b, e = .returned (.pointer (some ⟨b, 0, none⟩)) ∧ w.heap.size < b ∧ b < w'.heap.size ∧ Blk w' b (epCells T S L G ⟨1, 0, 0, false⟩) 172 ∧ Below w.heap.size w w' := by
  go_enter Try.func71, Try.ntmps71
  go_wp2_with fail
  go_ret
  refine ⟨w.heap.size + 1, rfl, by omega, by simp, Blk.new2 _ _ _ _, ((Below.refl _ _).alloc (Nat.le_refl _) _).alloc (by simp) _⟩
theorem ep_won (w : World) (b : Nat) (s : EpS) (hB : Blk w b (epCells T S L G s) 172) : Calls Try.prog 75 #[.pointer (some ⟨b, 0, none⟩)] w fun e w' => e = .returned (.bool s.won) ∧ Below w.heap.size w w' := by
  have C := hB.cell
  go_enter Try.func75, Try.ntmps75
  go_wp2_with fail
  go_ret
  exact ⟨by simp, Below.refl _ _⟩
set_option maxHeartbeats 1000000 in
theorem ep_nextN (w : World) (b : Nat) (s : EpS) (hB : Blk w b (epCells T S L G s) 172) (hm : (epM T).more s = false) :
    Calls Try.prog 72 #[.pointer (some ⟨b, 0, none⟩)] w fun e w' => e = .returned (.tuple #[.agg #[.int .i64 0, .int .i64 0, .int .u64 0, .int .u64 0, .int .u64 0], .bool false]) ∧ Below w.heap.size w w' := by
  have C := hB.cell
  have hm' : ¬ (s.at_ = 1 ∨ s.at_ = 2 ∨ s.at_ = 3) := by simpa [epM] using hm
  have h1 : (s.at_ == 1) = false := by simp; omega
  have h2 : (s.at_ == 2) = false := by simp; omega
  have h3 : (s.at_ == 3) = false := by simp; omega
  clear hm hm'
  go_enter Try.func72, Try.ntmps72
  go_wp2_with fail
  refine bodyPost_ret (v := .tuple #[.agg #[.int .i64 0, .int .i64 0, .int .u64 0, .int .u64 0, .int .u64 0], .bool false]) (by simp [results, Try.results72, go_sem]) rfl ⟨rfl, ?_⟩
  exact (Below.refl _ _).alloc (Nat.le_refl _) _
theorem toS_pos {w w' : World} {o : Obj} (h : w' = w.alloc o) : w.heap.size < w'.heap.size := by rw [h]; simp
set_option maxHeartbeats 2000000 in
theorem ep_nextY (w : World) (b : Nat) (s : EpS) (hB : Blk w b (epCells T S L G s) 172) (hm : (epM T).more s = true) :
    Calls Try.prog 72 #[.pointer (some ⟨b, 0, none⟩)] w fun e w' => e = .returned (.tuple #[((epM T).deed s).val, .bool true]) ∧ Below w.heap.size w w' := by
  obtain ⟨at_, i, ep, won⟩ := s
  have hm' : at_ = 1 ∨ at_ = 2 ∨ at_ = 3 := by simpa [epM] using hm
  clear hm
  rcases hm' with rfl | rfl | rfl
  · have C := hB.cell
    go_enter Try.func72, Try.ntmps72
    go_wp2_with fail
    refine bodyPost_ret (v := .tuple #[((epM T).deed ⟨1, i, ep, won⟩).val, .bool true]) (by simp [results, Try.results72, go_sem, epM, epDeed]) rfl ⟨rfl, ?_⟩
    exact (Below.refl _ _).alloc (Nat.le_refl _) _
  · have C := hB.cell
    go_enter Try.func72, Try.ntmps72
    go_wp2_with fail
    refine wp_region_tail 10 (by kernel_rfl) (by kernel_rfl) ?_
    simp only [List.take_succ_cons, List.take_zero, List.drop_succ_cons, List.drop_zero]
    repeat (quiet_step ((go_at_call 42; exact calls_later (pin_calls _ _ _ _ _ _))))
    refine wpQuiet_nil ?_
    intro w1 hb1
    have R1 := (Blk.new _ _ _).below' hb1
    have C1 := R1.cell
    have F1 := R1.frozen
    go_wp2_with fail
    refine bodyPost_ret (v := .tuple #[((epM T).deed ⟨2, i, ep, won⟩).val, .bool true]) (by simp [results, Try.results72, go_sem, epM, epDeed, C1]) rfl ⟨rfl, ?_⟩
    exact (Only.set5 _ _ _ _ _ _ _).below (Below.step _ hb1) (Nat.le_refl _)
  · have C := hB.cell
    go_enter Try.func72, Try.ntmps72
    go_wp2_with fail
    refine wp_region_tail 10 (by kernel_rfl) (by kernel_rfl) ?_
    simp only [List.take_succ_cons, List.take_zero, List.drop_succ_cons, List.drop_zero]
    repeat (quiet_step (fail))
    refine wpQuiet_nil ?_
    intro w1 hb1
    have R1 := (Blk.new _ _ _).below' hb1
    have C1 := R1.cell
    have F1 := R1.frozen
    go_wp2_with fail
    refine bodyPost_ret (v := .tuple #[((epM T).deed ⟨3, i, ep, won⟩).val, .bool true]) (by simp [results, Try.results72, go_sem, epM, epDeed, C1, epU]) rfl ⟨rfl, ?_⟩
    exact (Only.set5 _ _ _ _ _ _ _).below (Below.step _ hb1) (Nat.le_refl _)
set_option maxHeartbeats 1000000 in
theorem et0 (w : World) (b : Nat) (i ep : Int) (won : Bool) (x : Int) (hB : Blk w b (epCells T S L G ⟨0, i, ep, won⟩) 172) :
    Calls Try.prog 73 #[.pointer (some ⟨b, 0, none⟩), .int .u64 x] w fun e w' => e = .returned (.tuple #[]) ∧ Blk w' b (epCells T S L G ⟨0, i, ep, won⟩) 172 ∧ Mod (fun k => k = b) w w' := by
  have C := hB.cell
  have F := hB.frozen
  go_enter Try.func73, Try.ntmps73
  go_step3
  go_wp2_with fail
  rw [Exit.noGoto_ret]
  go_returns
  exact ⟨rfl, hB, (Mod.refl (fun k => k = b) w)⟩
set_option maxHeartbeats 1000000 in
theorem et1a (w : World) (b : Nat) (i ep : Int) (won : Bool) (x : Int) (hB : Blk w b (epCells T S L G ⟨1, i, ep, won⟩) 172) (hT : T ≤ i) :
    Calls Try.prog 73 #[.pointer (some ⟨b, 0, none⟩), .int .u64 x] w fun e w' => e = .returned (.tuple #[]) ∧ Blk w' b (epCells T S L G ⟨3, i, x, won⟩) 172 ∧ Mod (fun k => k = b) w w' := by
  have C := hB.cell
  have F := hB.frozen
  go_enter Try.func73, Try.ntmps73
  apply wp_scope_jumps 0 (fun a' w' => a' = _ ∧ w' = _) (fun _ _ => 0)
  · rfl
  · go_wp2_with fail
    go_step3
    exact ⟨rfl, rfl, rfl⟩
  · rintro a' w' ⟨rfl, rfl⟩
    go_wp2_with fail
    refine wp_region_reads (by kernel_rfl) (by kernel_rfl) ?_
    repeat (quiet_step (fail))
    refine wpQuiet_nil ?_
    intro w1 hb1
    have B1 := ((hB.set 6 (.int .u64 x)).set 4 (.int .i64 2)).below' hb1
    have C1 := B1.cell
    have F1 := B1.frozen
    have M1 := (((Mod.refl (fun k => k = b) w).setCell (a := ⟨b, 6, none⟩) (fun _ => rfl) (.int .u64 x)).setCell (a := ⟨b, 4, none⟩) (fun _ => rfl) (.int .i64 2)).thenBelow hb1
    simp only [epCells, List.set_cons_succ, List.set_cons_zero] at B1 C1
    clear C F
    go_wp2_with fail
    simp only [Exit.jump]
    go_returns
    exact ⟨rfl, B1.set 4 (.int .i64 3), M1.setCell (a := ⟨b, 4, none⟩) (fun _ => rfl) _⟩
set_option maxHeartbeats 1000000 in
theorem et1b (w : World) (b : Nat) (i ep : Int) (won : Bool) (x : Int) (hB : Blk w b (epCells T S L G ⟨1, i, ep, won⟩) 172) (hT : i < T) :
    Calls Try.prog 73 #[.pointer (some ⟨b, 0, none⟩), .int .u64 x] w fun e w' => e = .returned (.tuple #[]) ∧ Blk w' b (epCells T S L G ⟨2, i, x, won⟩) 172 ∧ Mod (fun k => k = b) w w' := by
  have C := hB.cell
  have F := hB.frozen
  go_enter Try.func73, Try.ntmps73
  apply wp_scope_jumps 0 (fun a' w' => a' = _ ∧ w' = _) (fun _ _ => 0)
  · rfl
  · go_wp2_with fail
    go_step3
    exact ⟨rfl, rfl, rfl⟩
  · rintro a' w' ⟨rfl, rfl⟩
    go_wp2_with fail
    refine wp_region_reads (by kernel_rfl) (by kernel_rfl) ?_
    repeat (quiet_step (fail))
    refine wpQuiet_nil ?_
    intro w1 hb1
    have B1 := ((hB.set 6 (.int .u64 x)).set 4 (.int .i64 2)).below' hb1
    have C1 := B1.cell
    have F1 := B1.frozen
    have M1 := (((Mod.refl (fun k => k = b) w).setCell (a := ⟨b, 6, none⟩) (fun _ => rfl) (.int .u64 x)).setCell (a := ⟨b, 4, none⟩) (fun _ => rfl) (.int .i64 2)).thenBelow hb1
    simp only [epCells, List.set_cons_succ, List.set_cons_zero] at B1 C1
    clear C F
    go_wp2_with fail
    simp only [Exit.jump]
    go_returns
    exact ⟨rfl, B1, M1⟩
set_option maxHeartbeats 1000000 in
theorem et2a (w : World) (b : Nat) (i ep : Int) (won : Bool) (hB : Blk w b (epCells T S L G ⟨2, i, ep, won⟩) 172) (hT : T ≤ wrap64 (i + 1)) :
    Calls Try.prog 73 #[.pointer (some ⟨b, 0, none⟩), .int .u64 0] w fun e w' => e = .returned (.tuple #[]) ∧ Blk w' b (epCells T S L G ⟨3, wrap64 (i + 1), ep, won⟩) 172 ∧ Mod (fun k => k = b) w w' := by
  have C := hB.cell
  have F := hB.frozen
  go_enter Try.func73, Try.ntmps73
  apply wp_scope_jumps 0 (fun a' w' => a' = _ ∧ w' = _) (fun _ _ => 0)
  · rfl
  · go_wp2_with fail
    go_step3
    exact ⟨rfl, rfl, rfl⟩
  · rintro a' w' ⟨rfl, rfl⟩
    go_wp2_with fail
    refine wp_region_reads (by kernel_rfl) (by kernel_rfl) ?_
    repeat (quiet_step (fail))
    refine wpQuiet_nil ?_
    intro w1 hb1
    have B1 := (hB.set 5 (.int .i64 (wrap64 (i + 1)))).below' hb1
    have C1 := B1.cell
    have F1 := B1.frozen
    have M1 := ((Mod.refl (fun k => k = b) w).setCell (a := ⟨b, 5, none⟩) (fun _ => rfl) (.int .i64 (wrap64 (i + 1)))).thenBelow hb1
    simp only [epCells, List.set_cons_succ, List.set_cons_zero] at B1 C1
    clear C F
    go_wp2_with fail
    simp only [Exit.jump]
    go_returns
    exact ⟨rfl, B1.set 4 (.int .i64 3), M1.setCell (a := ⟨b, 4, none⟩) (fun _ => rfl) _⟩
set_option maxHeartbeats 1000000 in
theorem et2b (w : World) (b : Nat) (i ep : Int) (won : Bool) (hB : Blk w b (epCells T S L G ⟨2, i, ep, won⟩) 172) (hT : wrap64 (i + 1) < T) :
    Calls Try.prog 73 #[.pointer (some ⟨b, 0, none⟩), .int .u64 0] w fun e w' => e = .returned (.tuple #[]) ∧ Blk w' b (epCells T S L G ⟨2, wrap64 (i + 1), ep, won⟩) 172 ∧ Mod (fun k => k = b) w w' := by
  have C := hB.cell
  have F := hB.frozen
  go_enter Try.func73, Try.ntmps73
  apply wp_scope_jumps 0 (fun a' w' => a' = _ ∧ w' = _) (fun _ _ => 0)
  · rfl
  · go_wp2_with fail
    go_step3
    exact ⟨rfl, rfl, rfl⟩
  · rintro a' w' ⟨rfl, rfl⟩
    go_wp2_with fail
    refine wp_region_reads (by kernel_rfl) (by kernel_rfl) ?_
    repeat (quiet_step (fail))
    refine wpQuiet_nil ?_
    intro w1 hb1
    have B1 := (hB.set 5 (.int .i64 (wrap64 (i + 1)))).below' hb1
    have C1 := B1.cell
    have F1 := B1.frozen
    have M1 := ((Mod.refl (fun k => k = b) w).setCell (a := ⟨b, 5, none⟩) (fun _ => rfl) (.int .i64 (wrap64 (i + 1)))).thenBelow hb1
    simp only [epCells, List.set_cons_succ, List.set_cons_zero] at B1 C1
    clear C F
    go_wp2_with fail
    simp only [Exit.jump]
    go_returns
    exact ⟨rfl, B1, M1⟩
set_option maxHeartbeats 1000000 in
theorem et2c (w : World) (b : Nat) (i ep : Int) (won : Bool) (hB : Blk w b (epCells T S L G ⟨2, i, ep, won⟩) 172) (ex : (ep == 0) = false) (hT : T ≤ wrap64 (i + 1)) :
    Calls Try.prog 73 #[.pointer (some ⟨b, 0, none⟩), .int .u64 ep] w fun e w' => e = .returned (.tuple #[]) ∧ Blk w' b (epCells T S L G ⟨3, wrap64 (i + 1), ep, won⟩) 172 ∧ Mod (fun k => k = b) w w' := by
  have C := hB.cell
  have F := hB.frozen
  go_enter Try.func73, Try.ntmps73
  apply wp_scope_jumps 0 (fun a' w' => a' = _ ∧ w' = _) (fun _ _ => 0)
  · rfl
  · go_wp2_with fail
    go_step3
    exact ⟨rfl, rfl, rfl⟩
  · rintro a' w' ⟨rfl, rfl⟩
    go_wp2_with fail
    refine wp_region_reads (by kernel_rfl) (by kernel_rfl) ?_
    repeat (quiet_step (fail))
    refine wpQuiet_nil ?_
    intro w1 hb1
    have B1 := (hB.set 5 (.int .i64 (wrap64 (i + 1)))).below' hb1
    have C1 := B1.cell
    have F1 := B1.frozen
    have M1 := ((Mod.refl (fun k => k = b) w).setCell (a := ⟨b, 5, none⟩) (fun _ => rfl) (.int .i64 (wrap64 (i + 1)))).thenBelow hb1
    simp only [epCells, List.set_cons_succ, List.set_cons_zero] at B1 C1
    clear C F
    go_wp2_with fail
    simp only [Exit.jump]
    go_returns
    exact ⟨rfl, B1.set 4 (.int .i64 3), M1.setCell (a := ⟨b, 4, none⟩) (fun _ => rfl) _⟩
set_option maxHeartbeats 1000000 in
theorem et2d (w : World) (b : Nat) (i ep : Int) (won : Bool) (hB : Blk w b (epCells T S L G ⟨2, i, ep, won⟩) 172) (ex : (ep == 0) = false) (hT : wrap64 (i + 1) < T) :
    Calls Try.prog 73 #[.pointer (some ⟨b, 0, none⟩), .int .u64 ep] w fun e w' => e = .returned (.tuple #[]) ∧ Blk w' b (epCells T S L G ⟨2, wrap64 (i + 1), ep, won⟩) 172 ∧ Mod (fun k => k = b) w w' := by
  have C := hB.cell
  have F := hB.frozen
  go_enter Try.func73, Try.ntmps73
  apply wp_scope_jumps 0 (fun a' w' => a' = _ ∧ w' = _) (fun _ _ => 0)
  · rfl
  · go_wp2_with fail
    go_step3
    exact ⟨rfl, rfl, rfl⟩
  · rintro a' w' ⟨rfl, rfl⟩
    go_wp2_with fail
    refine wp_region_reads (by kernel_rfl) (by kernel_rfl) ?_
    repeat (quiet_step (fail))
    refine wpQuiet_nil ?_
    intro w1 hb1
    have B1 := (hB.set 5 (.int .i64 (wrap64 (i + 1)))).below' hb1
    have C1 := B1.cell
    have F1 := B1.frozen
    have M1 := ((Mod.refl (fun k => k = b) w).setCell (a := ⟨b, 5, none⟩) (fun _ => rfl) (.int .i64 (wrap64 (i + 1)))).thenBelow hb1
    simp only [epCells, List.set_cons_succ, List.set_cons_zero] at B1 C1
    clear C F
    go_wp2_with fail
    simp only [Exit.jump]
    go_returns
    exact ⟨rfl, B1, M1⟩
set_option maxHeartbeats 1000000 in
theorem et2e (w : World) (b : Nat) (i ep : Int) (won : Bool) (x : Int) (hB : Blk w b (epCells T S L G ⟨2, i, ep, won⟩) 172) (ex : (x == 0) = false) (ey : (x == ep) = false) :
    Calls Try.prog 73 #[.pointer (some ⟨b, 0, none⟩), .int .u64 x] w fun e w' => e = .returned (.tuple #[]) ∧ Blk w' b (epCells T S L G ⟨0, wrap64 (i + 1), ep, won⟩) 172 ∧ Mod (fun k => k = b) w w' := by
  have C := hB.cell
  have F := hB.frozen
  go_enter Try.func73, Try.ntmps73
  go_step3
  go_wp2_with fail
  rw [Exit.noGoto_ret]
  go_returns
  exact ⟨rfl, ((hB.set 5 (.int .i64 (wrap64 (i + 1)))).set 4 (.int .i64 0)), (((Mod.refl (fun k => k = b) w).setCell (a := ⟨b, 5, none⟩) (fun _ => rfl) (.int .i64 (wrap64 (i + 1)))).setCell (a := ⟨b, 4, none⟩) (fun _ => rfl) (.int .i64 0))⟩
set_option maxHeartbeats 1000000 in
theorem et3 (w : World) (b : Nat) (i ep : Int) (won : Bool) (x : Int) (hB : Blk w b (epCells T S L G ⟨3, i, ep, won⟩) 172) :
    Calls Try.prog 73 #[.pointer (some ⟨b, 0, none⟩), .int .u64 x] w fun e w' => e = .returned (.tuple #[]) ∧ Blk w' b (epCells T S L G ⟨0, i, ep, x == ep⟩) 172 ∧ Mod (fun k => k = b) w w' := by
  have C := hB.cell
  have F := hB.frozen
  go_enter Try.func73, Try.ntmps73
  go_step3
  go_wp2_with fail
  rw [Exit.noGoto_ret]
  go_returns
  exact ⟨rfl, ((hB.set 7 (.bool (x == ep))).set 4 (.int .i64 0)), (((Mod.refl (fun k => k = b) w).setCell (a := ⟨b, 7, none⟩) (fun _ => rfl) (.bool (x == ep))).setCell (a := ⟨b, 4, none⟩) (fun _ => rfl) (.int .i64 0))⟩
set_option maxHeartbeats 1000000 in
theorem et4 (w : World) (b : Nat) (at_ i ep : Int) (won : Bool) (x : Int) (hB : Blk w b (epCells T S L G ⟨at_, i, ep, won⟩) 172) (e0 : (at_ == 0) = false) (e1 : (at_ == 1) = false) (e2 : (at_ == 2) = false) (e3 : (at_ == 3) = false) :
    Calls Try.prog 73 #[.pointer (some ⟨b, 0, none⟩), .int .u64 x] w fun e w' => e = .returned (.tuple #[]) ∧ Blk w' b (epCells T S L G ⟨0, i, ep, won⟩) 172 ∧ Mod (fun k => k = b) w w' := by
  have C := hB.cell
  have F := hB.frozen
  go_enter Try.func73, Try.ntmps73
  go_step3
  go_wp2_with fail
  rw [Exit.noGoto_ret]
  go_returns
  exact ⟨rfl, (hB.set 4 (.int .i64 0)), ((Mod.refl (fun k => k = b) w).setCell (a := ⟨b, 4, none⟩) (fun _ => rfl) (.int .i64 0))⟩
theorem ep_tell (w : World) (b : Nat) (s : EpS) (x : Int) (hB : Blk w b (epCells T S L G s) 172) :
    Calls Try.prog 73 #[.pointer (some ⟨b, 0, none⟩), .int .u64 x] w fun e w' => e = .returned (.tuple #[]) ∧ Blk w' b (epCells T S L G ((epM T).tell s x)) 172 ∧ Mod (fun k => k = b) w w' := by
  obtain ⟨at_, i, ep, won⟩ := s
  have ct : (epM T).tell = epTell T := rfl
  rw [ct]
  by_cases h0 : at_ = 0
  · subst h0
    have e : epTell T ⟨0, i, ep, won⟩ x = ⟨0, i, ep, won⟩ := by simp [epTell]
    rw [e]; exact et0 T S L G w b i ep won x hB
  by_cases h1 : at_ = 1
  · subst h1
    by_cases hT : T ≤ i
    · have e : epTell T ⟨1, i, ep, won⟩ x = ⟨3, i, x, won⟩ := by simp [epTell, hT]
      rw [e]; exact et1a T S L G w b i ep won x hB hT
    · have e : epTell T ⟨1, i, ep, won⟩ x = ⟨2, i, x, won⟩ := by simp [epTell, hT]
      rw [e]; exact et1b T S L G w b i ep won x hB (by omega)
  by_cases h2 : at_ = 2
  · subst h2
    by_cases hx : x = 0
    · subst hx
      by_cases hT : T ≤ wrap64 (i + 1)
      · have e : epTell T ⟨2, i, ep, won⟩ 0 = ⟨3, wrap64 (i + 1), ep, won⟩ := by simp [epTell, hT]
        rw [e]; exact et2a T S L G w b i ep won hB hT
      · have e : epTell T ⟨2, i, ep, won⟩ 0 = ⟨2, wrap64 (i + 1), ep, won⟩ := by simp [epTell, hT]
        rw [e]; exact et2b T S L G w b i ep won hB (by omega)
    · by_cases hy : x = ep
      · subst hy
        by_cases hT : T ≤ wrap64 (i + 1)
        · have e : epTell T ⟨2, i, x, won⟩ x = ⟨3, wrap64 (i + 1), x, won⟩ := by simp [epTell, hT]
          rw [e]; exact et2c T S L G w b i x won hB (by simpa using hx) hT
        · have e : epTell T ⟨2, i, x, won⟩ x = ⟨2, wrap64 (i + 1), x, won⟩ := by simp [epTell, hT]
          rw [e]; exact et2d T S L G w b i x won hB (by simpa using hx) (by omega)
      · have e : epTell T ⟨2, i, ep, won⟩ x = ⟨0, wrap64 (i + 1), ep, won⟩ := by simp [epTell, hx, hy]
        rw [e]; exact et2e T S L G w b i ep won x hB (by simpa using hx) (by simpa using hy)
  by_cases h3 : at_ = 3
  · subst h3
    have e : epTell T ⟨3, i, ep, won⟩ x = ⟨0, i, ep, x == ep⟩ := by simp [epTell]; rw [Bool.eq_iff_iff]; simp
    rw [e]; exact et3 T S L G w b i ep won x hB
  · have e : epTell T ⟨at_, i, ep, won⟩ x = ⟨0, i, ep, won⟩ := by simp [epTell, h0, h1, h2, h3]
    rw [e]; exact et4 T S L G w b at_ i ep won x hB (by simpa using h0) (by simpa using h1) (by simpa using h2) (by simpa using h3)
end
end Go.Proofs.Ytgkobmmannkegaa
