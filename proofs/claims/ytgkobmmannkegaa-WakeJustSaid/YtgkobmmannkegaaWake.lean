/-
  The wake (chapter 28): its task as a plain machine, in memory one block; the document's answer; that they agree.
-/
import Derived.Test.YtgkobmmannkegaaEpoch
namespace Go.Proofs.Ytgkobmmannkegaa
open Go Go.RowKit
set_option linter.unusedVariables false

structure WkS where
  i : Int
  add : Bool
def wkDeed (T : Int) (s : WkS) : D := if s.add then ⟨4, wrap64 (4 + 2 * T + s.i), 1, 0, 0⟩ else ⟨1, wrap64 (4 + T + s.i), 0, 0, 0⟩
def wkTell (T dl : Int) (s : WkS) (x : Int) : WkS :=
  if T ≤ s.i then s else if s.add = false ∧ x ≠ 0 ∧ IntKind.u64.wrap (dl + 1) < x then ⟨s.i, true⟩ else ⟨wrap64 (s.i + 1), false⟩
def wkM (T dl : Int) : Mach WkS := { more := fun s => decide (s.i < T), deed := wkDeed T, tell := wkTell T dl }
abbrev wkCells (T S L G dl : Int) (s : WkS) : List Value := [.int .i64 s.i, .bool s.add, .int .i64 T, .int .i64 S, .int .i64 L, .int .u64 G, .int .u64 dl]

section
variable (T S L G dl : Int)
theorem wk_new (a : Int) (w : World) : Calls Try.prog 33 #[planV T S L G, .int .i64 a] w fun e w' => ∃ b, e = .returned (.pointer (some ⟨b, 0, none⟩)) ∧ w.heap.size < b ∧ b < w'.heap.size ∧ Blk w' b (wkCells T S L G (IntKind.u64.wrap a) ⟨0, false⟩) 160 ∧ Below w.heap.size w w' := by
  go_enter Try.func33, Try.ntmps33
  go_wp2_with fail
  go_ret
  refine ⟨w.heap.size + 1, rfl, by omega, by simp, Blk.new2 _ _ _ _, ((Below.refl _ _).alloc (Nat.le_refl _) _).alloc (by simp) _⟩
set_option maxHeartbeats 2000000 in
theorem wk_nextN (w : World) (b : Nat) (s : WkS) (hB : Blk w b (wkCells T S L G dl s) 160) (hm : (wkM T dl).more s = false) :
    Calls Try.prog 34 #[.pointer (some ⟨b, 0, none⟩)] w fun e w' => e = .returned (.tuple #[.agg #[.int .i64 0, .int .i64 0, .int .u64 0, .int .u64 0, .int .u64 0], .bool false]) ∧ Below w.heap.size w w' := by
  obtain ⟨i, add⟩ := s
  have hT : T ≤ i := by simpa [wkM] using hm
  have C := hB.cell
  clear hm
  go_enter Try.func34, Try.ntmps34
  go_wp2_with fail
  refine wp_region_reads (by kernel_rfl) (by kernel_rfl) ?_
  repeat (quiet_step (fail))
  refine wpQuiet_nil ?_
  intro w1 hb1
  have R1 := (Blk.new _ _ _).below' hb1
  have C1 := R1.cell
  have F1 := R1.frozen
  go_wp2_with fail
  refine bodyPost_ret (v := .tuple #[.agg #[.int .i64 0, .int .i64 0, .int .u64 0, .int .u64 0, .int .u64 0], .bool false]) (by simp [results, Try.results34, go_sem, C1]) rfl ⟨rfl, ?_⟩
  exact (Only.set5 _ _ _ _ _ _ _).below (Below.step _ hb1) (Nat.le_refl _)
set_option maxHeartbeats 2000000 in
theorem wk_nextY (w : World) (b : Nat) (s : WkS) (hB : Blk w b (wkCells T S L G dl s) 160) (hm : (wkM T dl).more s = true) :
    Calls Try.prog 34 #[.pointer (some ⟨b, 0, none⟩)] w fun e w' => e = .returned (.tuple #[((wkM T dl).deed s).val, .bool true]) ∧ Below w.heap.size w w' := by
  obtain ⟨i, add⟩ := s
  have hT : i < T := by simpa [wkM] using hm
  have C := hB.cell
  have HB := Lib.hid hB
  clear hm hB
  go_enter Try.func34, Try.ntmps34
  go_wp2_with fail
  refine wp_region_reads (by kernel_rfl) (by kernel_rfl) ?_
  repeat (quiet_step (fail))
  refine wpQuiet_nil ?_
  intro w1 hb1
  have R1 := (Blk.new _ _ _).below' hb1
  have B1 := (HB.out.alloc _).below' hb1
  have W1 := Lib.hid (Below.step _ hb1)
  have C0 := B1.cell
  clear C HB hb1
  cases add with
  | true =>
    go_wp2_with fail
    refine wp_region_tail 11 (by kernel_rfl) (by kernel_rfl) ?_
    simp only [List.take_succ_cons, List.take_zero, List.drop_succ_cons, List.drop_zero]
    repeat (quiet_step ((go_at_call 46; exact calls_later (sem_calls _ _ _ _ _ _))))
    refine wpQuiet_nil ?_
    intro w2 hb2
    have R2 := R1.below' hb2
    have C2 := R2.cell
    have F2 := R2.frozen
    clear C0
    go_wp2_with fail
    refine bodyPost_ret (v := .tuple #[((wkM T dl).deed ⟨i, true⟩).val, .bool true]) (by simp [results, Try.results34, go_sem, C2, wkM, wkDeed]) rfl ⟨rfl, ?_⟩
    exact (Only.set5 _ _ _ _ _ _ _).below (W1.out.trans (hb2.mono W1.out.size)) (Nat.le_refl _)
  | false =>
    go_wp2_with fail
    refine wp_region_tail 11 (by kernel_rfl) (by kernel_rfl) ?_
    simp only [List.take_succ_cons, List.take_zero, List.drop_succ_cons, List.drop_zero]
    repeat (quiet_step ((go_at_call 44; exact calls_later (sleep_calls _ _ _ _ _ _))))
    refine wpQuiet_nil ?_
    intro w2 hb2
    have R2 := R1.below' hb2
    have C2 := R2.cell
    have F2 := R2.frozen
    clear C0
    go_wp2_with fail
    refine bodyPost_ret (v := .tuple #[((wkM T dl).deed ⟨i, false⟩).val, .bool true]) (by simp [results, Try.results34, go_sem, C2, wkM, wkDeed]) rfl ⟨rfl, ?_⟩
    exact (Only.set5 _ _ _ _ _ _ _).below (W1.out.trans (hb2.mono W1.out.size)) (Nat.le_refl _)
theorem wk_pass (w : World) (b : Nat) (i : Int) (add : Bool) (hB : Blk w b (wkCells T S L G dl ⟨i, add⟩) 160) :
    Calls Try.prog 144 #[.pointer (some ⟨b, 0, none⟩)] w fun e w' => e = .returned (.tuple #[]) ∧ Blk w' b (wkCells T S L G dl ⟨wrap64 (i + 1), false⟩) 160 ∧ Mod (fun k => k = b) w w' := by
  have C := hB.cell
  have F := hB.frozen
  go_enter Try.func144, Try.ntmps144
  go_wp2_with fail
  go_returns
  exact ⟨rfl, (hB.set 0 (.int .i64 (wrap64 (i + 1)))).set 1 (.bool false), ((Mod.refl (fun k => k = b) w).setCell (a := ⟨b, 0, none⟩) (fun _ => rfl) _).setCell (a := ⟨b, 1, none⟩) (fun _ => rfl) _⟩
theorem wk_tell (w : World) (b : Nat) (s : WkS) (x : Int) (hB : Blk w b (wkCells T S L G dl s) 160) :
    Calls Try.prog 35 #[.pointer (some ⟨b, 0, none⟩), .int .u64 x] w fun e w' => e = .returned (.tuple #[]) ∧ Blk w' b (wkCells T S L G dl ((wkM T dl).tell s x)) 160 ∧ Mod (fun k => k = b) w w' := by
  obtain ⟨i, add⟩ := s
  have HB := Lib.hid hB
  clear hB
  by_cases hT : T ≤ i
  · have e : (wkM T dl).tell ⟨i, add⟩ x = ⟨i, add⟩ := by simp [wkM, wkTell, hT]
    rw [e]
    go_enter Try.func35, Try.ntmps35
    go_wp2_with fail
    refine (wk_nextN T S L G dl _ _ _ HB.out (by simpa [wkM] using hT)).mono ?_
    rintro e w1 ⟨rfl, hb1⟩
    go_wp2_with fail
    go_returns
    exact ⟨rfl, (HB.out.below' hb1).alloc _, (Mod.of_below (S := fun k => k = b) hb1).alloc _⟩
  · have hlt : i < T := by omega
    have HT := Lib.hid hT
    clear hT
    cases add with
    | true =>
      have e : (wkM T dl).tell ⟨i, true⟩ x = ⟨wrap64 (i + 1), false⟩ := by simp [wkM, wkTell, HT.out]
      rw [e]
      go_enter Try.func35, Try.ntmps35
      go_wp2_with fail
      refine (wk_nextY T S L G dl _ _ _ HB.out (by simpa [wkM] using hlt)).mono ?_
      rintro e w1 ⟨rfl, hb1⟩
      have B1 := (HB.out.below' hb1).alloc (.cells #[.int .i64 ((wkM T dl).deed ⟨i, true⟩).k, .int .i64 ((wkM T dl).deed ⟨i, true⟩).at_, .int .u64 ((wkM T dl).deed ⟨i, true⟩).a, .int .u64 ((wkM T dl).deed ⟨i, true⟩).b, .int .u64 ((wkM T dl).deed ⟨i, true⟩).by_] 31)
      have M1 := Lib.hid ((Mod.of_below (S := fun k => k = b) hb1).alloc (.cells #[.int .i64 ((wkM T dl).deed ⟨i, true⟩).k, .int .i64 ((wkM T dl).deed ⟨i, true⟩).at_, .int .u64 ((wkM T dl).deed ⟨i, true⟩).a, .int .u64 ((wkM T dl).deed ⟨i, true⟩).b, .int .u64 ((wkM T dl).deed ⟨i, true⟩).by_] 31))
      have C1 := B1.cell
      have F1 := B1.frozen
      go_wp2_with fail
      refine (wk_pass T S L G dl _ _ i false (B1.set 1 (.bool false))).mono ?_
      rintro e w2 ⟨rfl, hB2, hM2⟩
      go_wp2_with fail
      go_returns
      exact ⟨rfl, hB2, (M1.out.setCell (a := ⟨b, 1, none⟩) (fun _ => rfl) _).trans' hM2⟩
    | false =>
      by_cases hx : x ≠ 0 ∧ IntKind.u64.wrap (dl + 1) < x
      · have e : (wkM T dl).tell ⟨i, false⟩ x = ⟨i, true⟩ := by simp [wkM, wkTell, HT.out, hx]
        rw [e]
        obtain ⟨hx0, hx1⟩ := hx
        have e0 : (x != 0) = true := by simpa using hx0
        clear hx0
        go_enter Try.func35, Try.ntmps35
        go_wp2_with fail
        refine (wk_nextY T S L G dl _ _ _ HB.out (by simpa [wkM] using hlt)).mono ?_
        rintro e w1 ⟨rfl, hb1⟩
        have B1 := (HB.out.below' hb1).alloc (.cells #[.int .i64 ((wkM T dl).deed ⟨i, false⟩).k, .int .i64 ((wkM T dl).deed ⟨i, false⟩).at_, .int .u64 ((wkM T dl).deed ⟨i, false⟩).a, .int .u64 ((wkM T dl).deed ⟨i, false⟩).b, .int .u64 ((wkM T dl).deed ⟨i, false⟩).by_] 31)
        have M1 := Lib.hid ((Mod.of_below (S := fun k => k = b) hb1).alloc (.cells #[.int .i64 ((wkM T dl).deed ⟨i, false⟩).k, .int .i64 ((wkM T dl).deed ⟨i, false⟩).at_, .int .u64 ((wkM T dl).deed ⟨i, false⟩).a, .int .u64 ((wkM T dl).deed ⟨i, false⟩).b, .int .u64 ((wkM T dl).deed ⟨i, false⟩).by_] 31))
        have C1 := B1.cell
        have F1 := B1.frozen
        go_wp2_with fail
        go_returns
        exact ⟨rfl, B1.set 1 (.bool true), M1.out.setCell (a := ⟨b, 1, none⟩) (fun _ => rfl) _⟩
      · have e : (wkM T dl).tell ⟨i, false⟩ x = ⟨wrap64 (i + 1), false⟩ := by
          simp [wkM, wkTell, HT.out]; intro h1; exact Int.not_lt.1 (fun h2 => hx ⟨h1, h2⟩)
        rw [e]
        by_cases hx0 : x = 0
        · subst hx0
          clear hx
          go_enter Try.func35, Try.ntmps35
          go_wp2_with fail
          refine (wk_nextY T S L G dl _ _ _ HB.out (by simpa [wkM] using hlt)).mono ?_
          rintro e w1 ⟨rfl, hb1⟩
          have B1 := (HB.out.below' hb1).alloc (.cells #[.int .i64 ((wkM T dl).deed ⟨i, false⟩).k, .int .i64 ((wkM T dl).deed ⟨i, false⟩).at_, .int .u64 ((wkM T dl).deed ⟨i, false⟩).a, .int .u64 ((wkM T dl).deed ⟨i, false⟩).b, .int .u64 ((wkM T dl).deed ⟨i, false⟩).by_] 31)
          have M1 := Lib.hid ((Mod.of_below (S := fun k => k = b) hb1).alloc (.cells #[.int .i64 ((wkM T dl).deed ⟨i, false⟩).k, .int .i64 ((wkM T dl).deed ⟨i, false⟩).at_, .int .u64 ((wkM T dl).deed ⟨i, false⟩).a, .int .u64 ((wkM T dl).deed ⟨i, false⟩).b, .int .u64 ((wkM T dl).deed ⟨i, false⟩).by_] 31))
          have C1 := B1.cell
          have F1 := B1.frozen
          go_wp2_with fail
          refine (wk_pass T S L G dl _ _ i false (B1.set 1 (.bool false))).mono ?_
          rintro e w2 ⟨rfl, hB2, hM2⟩
          go_wp2_with fail
          go_returns
          exact ⟨rfl, hB2, (M1.out.setCell (a := ⟨b, 1, none⟩) (fun _ => rfl) _).trans' hM2⟩
        · have hx1 : x ≤ IntKind.u64.wrap (dl + 1) := by
            rcases Int.lt_or_le (IntKind.u64.wrap (dl + 1)) x with h | h
            · exact absurd ⟨hx0, h⟩ hx
            · exact h
          have e0 : (x != 0) = true := by simpa using hx0
          have e1 : decide (IntKind.u64.wrap (dl + 1) < x) = false := by simpa using hx1
          clear hx hx0 hx1
          go_enter Try.func35, Try.ntmps35
          go_wp2_with fail
          refine (wk_nextY T S L G dl _ _ _ HB.out (by simpa [wkM] using hlt)).mono ?_
          rintro e w1 ⟨rfl, hb1⟩
          have B1 := (HB.out.below' hb1).alloc (.cells #[.int .i64 ((wkM T dl).deed ⟨i, false⟩).k, .int .i64 ((wkM T dl).deed ⟨i, false⟩).at_, .int .u64 ((wkM T dl).deed ⟨i, false⟩).a, .int .u64 ((wkM T dl).deed ⟨i, false⟩).b, .int .u64 ((wkM T dl).deed ⟨i, false⟩).by_] 31)
          have M1 := Lib.hid ((Mod.of_below (S := fun k => k = b) hb1).alloc (.cells #[.int .i64 ((wkM T dl).deed ⟨i, false⟩).k, .int .i64 ((wkM T dl).deed ⟨i, false⟩).at_, .int .u64 ((wkM T dl).deed ⟨i, false⟩).a, .int .u64 ((wkM T dl).deed ⟨i, false⟩).b, .int .u64 ((wkM T dl).deed ⟨i, false⟩).by_] 31))
          have C1 := B1.cell
          have F1 := B1.frozen
          go_wp2_with fail
          refine (wk_pass T S L G dl _ _ i false (B1.set 1 (.bool false))).mono ?_
          rintro e w2 ⟨rfl, hB2, hM2⟩
          go_wp2_with fail
          go_returns
          exact ⟨rfl, hB2, (M1.out.setCell (a := ⟨b, 1, none⟩) (fun _ => rfl) _).trans' hM2⟩
end
end Go.Proofs.Ytgkobmmannkegaa
