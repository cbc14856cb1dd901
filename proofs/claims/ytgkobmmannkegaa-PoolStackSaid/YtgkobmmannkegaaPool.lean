/-
  The pool's tasks (chapter 12) in memory, a block each.
-/
import Derived.Test.YtgkobmmannkegaaPoolPlain
import Derived.Test.YtgkobmmannkegaaEpoch
namespace Go.Proofs.Ytgkobmmannkegaa
open Go Go.RowKit
set_option linter.unusedVariables false

theorem turned_any (h t : Int) (w : World) : Calls Try.prog 184 #[.int .u64 h, .int .u64 t] w fun e w' => e = .returned (.int .u64 (turnedP h t)) ∧ w = w' := by
  go_enter Try.func184, Try.ntmps184
  go_wp2_with fail
  refine (high_calls _ _).mono ?_
  rintro e w' ⟨rfl, rfl⟩
  go_wp2_with fail
  refine (pair_any _ _ _).mono ?_
  rintro e w' ⟨rfl, rfl⟩
  go_wp2_with fail
  go_ret
  exact ⟨rfl, rfl⟩
abbrev popCells (T S L G : Int) (s : PopS) : List Value := [.int .i64 T, .int .i64 S, .int .i64 L, .int .u64 G, .int .i64 s.at_, .int .u64 s.head, .int .u64 s.below, .int .i64 s.index]
abbrev pushCells (T S L G i : Int) (s : PushS) : List Value := [.int .i64 T, .int .i64 S, .int .i64 L, .int .u64 G, .int .i64 s.at_, .int .u64 s.head, .int .i64 i]
section
variable (T S L G : Int)
theorem pop_new (w : World) : Calls Try.prog 133 #[planV T S L G] w fun e w' => ∃ b, e = .returned (.pointer (some ⟨b, 0, none⟩)) ∧ w.heap.size < b ∧ b < w'.heap.size ∧ Blk w' b (popCells T S L G pop0) 210 ∧ Below w.heap.size w w' := by
  go_enter Try.func133, Try.ntmps133
  go_wp2_with fail
  go_ret
  refine ⟨w.heap.size + 1, rfl, by omega, by simp, Blk.new2 _ _ _ _, ((Below.refl _ _).alloc (Nat.le_refl _) _).alloc (by simp) _⟩
theorem pop_index (w : World) (b : Nat) (s : PopS) (hB : Blk w b (popCells T S L G s) 210) : Calls Try.prog 137 #[.pointer (some ⟨b, 0, none⟩)] w fun e w' => e = .returned (.int .i64 (popIndex s)) ∧ Below w.heap.size w w' := by
  obtain ⟨at_, h, bl, i⟩ := s
  have C := hB.cell
  by_cases h0 : at_ = 0
  · subst h0
    go_enter Try.func137, Try.ntmps137
    go_wp2_with fail
    go_ret
    exact ⟨by simp [popIndex], Below.refl _ _⟩
  · have e0 : (at_ != 0) = true := by simpa using h0
    have H := Lib.hid h0
    clear h0
    go_enter Try.func137, Try.ntmps137
    go_wp2_with fail
    go_ret
    exact ⟨by simp [popIndex, H.out], Below.refl _ _⟩
set_option maxHeartbeats 1000000 in
theorem pop_nextN (w : World) (b : Nat) (s : PopS) (hB : Blk w b (popCells T S L G s) 210) (hm : (popM T L).more s = false) :
    Calls Try.prog 134 #[.pointer (some ⟨b, 0, none⟩)] w fun e w' => e = .returned (.tuple #[.agg #[.int .i64 0, .int .i64 0, .int .u64 0, .int .u64 0, .int .u64 0], .bool false]) ∧ Below w.heap.size w w' := by
  have C := hB.cell
  have hm' : ¬ (s.at_ = 1 ∨ s.at_ = 2 ∨ s.at_ = 3) := by simpa [popM] using hm
  have h1 : (s.at_ == 1) = false := by simp; omega
  have h2 : (s.at_ == 2) = false := by simp; omega
  have h3 : (s.at_ == 3) = false := by simp; omega
  clear hm hm'
  go_enter Try.func134, Try.ntmps134
  go_wp2_with fail
  refine bodyPost_ret (v := .tuple #[.agg #[.int .i64 0, .int .i64 0, .int .u64 0, .int .u64 0, .int .u64 0], .bool false]) (by simp [results, Try.results134, go_sem]) rfl ⟨rfl, ?_⟩
  exact (Below.refl _ _).alloc (Nat.le_refl _) _
set_option maxHeartbeats 2000000 in
theorem pop_nextY (w : World) (b : Nat) (s : PopS) (hB : Blk w b (popCells T S L G s) 210) (hm : (popM T L).more s = true) :
    Calls Try.prog 134 #[.pointer (some ⟨b, 0, none⟩)] w fun e w' => e = .returned (.tuple #[((popM T L).deed s).val, .bool true]) ∧ Below w.heap.size w w' := by
  obtain ⟨at_, h, bl, i⟩ := s
  have hm' : at_ = 1 ∨ at_ = 2 ∨ at_ = 3 := by simpa [popM] using hm
  clear hm
  rcases hm' with rfl | rfl | rfl
  · have C := hB.cell
    go_enter Try.func134, Try.ntmps134
    go_wp2_with fail
    refine bodyPost_ret (v := .tuple #[((popM T L).deed ⟨1, h, bl, i⟩).val, .bool true]) (by simp [results, Try.results134, go_sem, popM, popDeed]) rfl ⟨rfl, ?_⟩
    exact (Below.refl _ _).alloc (Nat.le_refl _) _
  · have C := hB.cell
    go_enter Try.func134, Try.ntmps134
    go_wp2_with fail
    refine wp_region_tail 10 (by kernel_rfl) (by kernel_rfl) ?_
    simp only [List.take_succ_cons, List.take_zero, List.drop_succ_cons, List.drop_zero]
    repeat (quiet_step ((go_at_call 55; exact calls_later (succ_calls _ _ _ _ _ _))))
    refine wpQuiet_nil ?_
    intro w1 hb1
    have R1 := (Blk.new _ _ _).below' hb1
    have C1 := R1.cell
    have F1 := R1.frozen
    go_wp2_with fail
    refine bodyPost_ret (v := .tuple #[((popM T L).deed ⟨2, h, bl, i⟩).val, .bool true]) (by simp [results, Try.results134, go_sem, popM, popDeed, C1]) rfl ⟨rfl, ?_⟩
    exact (Only.set5 _ _ _ _ _ _ _).below (Below.step _ hb1) (Nat.le_refl _)
  · have C := hB.cell
    go_enter Try.func134, Try.ntmps134
    go_wp2_with fail
    refine wp_region_tail 14 (by kernel_rfl) (by kernel_rfl) ?_
    simp only [List.take_succ_cons, List.take_zero, List.drop_succ_cons, List.drop_zero]
    repeat (quiet_step ((go_at_call 184; exact calls_later ((turned_any _ _ _).mono fun e w' ⟨he, hw⟩ => ⟨he, hw ▸ Below.refl _ _⟩))))
    refine wpQuiet_nil ?_
    intro w1 hb1
    have R1 := (Blk.new _ _ _).below' hb1
    have C1 := R1.cell
    have F1 := R1.frozen
    go_wp2_with fail
    refine bodyPost_ret (v := .tuple #[((popM T L).deed ⟨3, h, bl, i⟩).val, .bool true]) (by simp [results, Try.results134, go_sem, popM, popDeed, C1]) rfl ⟨rfl, ?_⟩
    exact (Only.set5 _ _ _ _ _ _ _).below (Below.step _ hb1) (Nat.le_refl _)
set_option maxHeartbeats 1000000 in
theorem pop_tell (w : World) (b : Nat) (s : PopS) (x : Int) (hB : Blk w b (popCells T S L G s) 210) :
    Calls Try.prog 135 #[.pointer (some ⟨b, 0, none⟩), .int .u64 x] w fun e w' => e = .returned (.tuple #[]) ∧ Blk w' b (popCells T S L G ((popM T L).tell s x)) 210 ∧ Mod (fun k => k = b) w w' := by
  obtain ⟨at_, h, bl, i⟩ := s
  have ct : (popM T L).tell = popTell := rfl
  rw [ct]
  have C := hB.cell
  have F := hB.frozen
  by_cases h1 : at_ = 1
  · subst h1
    have hi : wrap64 (x % 4294967296) = x % 4294967296 := by rw [wrap64_def]; omega
    by_cases hx : x % 4294967296 = 0
    · have e : popTell ⟨1, h, bl, i⟩ x = ⟨0, x, bl, 0⟩ := by simp [popTell, hx]
      rw [e]
      have HX := Lib.hid hx
      clear e hx hi
      go_enter Try.func135, Try.ntmps135
      go_wp2_with fail
      refine (low_any _ _).mono ?_
      rw [HX.out]
      rintro e w' ⟨rfl, rfl⟩
      go_wp2_with fail
      go_returns
      exact ⟨rfl, (((hB.set 5 (.int .u64 x)).set 7 (.int .i64 0)).set 4 (.int .i64 2)).set 4 (.int .i64 0),
        ((((Mod.refl (fun k => k = b) w).setCell (a := ⟨b, 5, none⟩) (fun _ => rfl) _).setCell (a := ⟨b, 7, none⟩) (fun _ => rfl) _).setCell (a := ⟨b, 4, none⟩) (fun _ => rfl) _).setCell (a := ⟨b, 4, none⟩) (fun _ => rfl) _⟩
    · have e : popTell ⟨1, h, bl, i⟩ x = ⟨2, x, bl, x % 4294967296⟩ := by simp [popTell, hx]
      rw [e]
      have LW : Hid (∀ w, Calls Try.prog 176 #[.int .u64 x] w fun e w' => e = .returned (.int .u64 (x % 4294967296)) ∧ w = w') := fun w => low_any x w
      have y0 : 0 ≤ x % 4294967296 := by omega
      have y1 : x % 4294967296 < 4294967296 := by omega
      generalize x % 4294967296 = y at *
      have b0 : (y == 0) = false := by simpa using hx
      clear e hx hi
      go_enter Try.func135, Try.ntmps135
      go_wp2_with fail
      refine (LW.out _).mono ?_
      rintro e w' ⟨rfl, rfl⟩
      go_wp2_with fail
      go_returns
      exact ⟨rfl, ((hB.set 5 (.int .u64 x)).set 7 (.int .i64 y)).set 4 (.int .i64 2),
        (((Mod.refl (fun k => k = b) w).setCell (a := ⟨b, 5, none⟩) (fun _ => rfl) _).setCell (a := ⟨b, 7, none⟩) (fun _ => rfl) _).setCell (a := ⟨b, 4, none⟩) (fun _ => rfl) _⟩
  · by_cases h2 : at_ = 2
    · subst h2
      have e : popTell ⟨2, h, bl, i⟩ x = ⟨3, h, x, i⟩ := by simp [popTell]
      rw [e]
      clear e h1
      go_enter Try.func135, Try.ntmps135
      go_wp2_with fail
      go_returns
      exact ⟨rfl, (hB.set 6 (.int .u64 x)).set 4 (.int .i64 3), ((Mod.refl (fun k => k = b) w).setCell (a := ⟨b, 6, none⟩) (fun _ => rfl) _).setCell (a := ⟨b, 4, none⟩) (fun _ => rfl) _⟩
    · have b1 : (at_ == 1) = false := by simpa using h1
      have b2 : (at_ == 2) = false := by simpa using h2
      by_cases h3 : at_ = 3
      · subst h3
        by_cases hx : x = h
        · subst hx
          have e : popTell ⟨3, x, bl, i⟩ x = ⟨0, x, bl, i⟩ := by simp [popTell]
          rw [e]
          clear e h1 h2
          go_enter Try.func135, Try.ntmps135
          go_wp2_with fail
          go_returns
          exact ⟨rfl, hB.set 4 (.int .i64 0), (Mod.refl (fun k => k = b) w).setCell (a := ⟨b, 4, none⟩) (fun _ => rfl) _⟩
        · have e : popTell ⟨3, h, bl, i⟩ x = ⟨1, h, bl, i⟩ := by simp [popTell, hx]
          rw [e]
          have bx : (x != h) = true := by simpa using hx
          clear e h1 h2 hx
          go_enter Try.func135, Try.ntmps135
          go_wp2_with fail
          go_returns
          exact ⟨rfl, hB.set 4 (.int .i64 1), (Mod.refl (fun k => k = b) w).setCell (a := ⟨b, 4, none⟩) (fun _ => rfl) _⟩
      · have e : popTell ⟨at_, h, bl, i⟩ x = ⟨0, h, bl, i⟩ := by simp [popTell, h1, h2, h3]
        have b3 : (at_ == 3) = false := by simpa using h3
        rw [e]
        clear e h1 h2 h3
        go_enter Try.func135, Try.ntmps135
        go_wp2_with fail
        go_returns
        exact ⟨rfl, hB.set 4 (.int .i64 0), (Mod.refl (fun k => k = b) w).setCell (a := ⟨b, 4, none⟩) (fun _ => rfl) _⟩
end
section
variable (T S L G i : Int)
theorem push_new (w : World) : Calls Try.prog 138 #[planV T S L G, .int .i64 i] w fun e w' => ∃ b, e = .returned (.pointer (some ⟨b, 0, none⟩)) ∧ w.heap.size < b ∧ b < w'.heap.size ∧ Blk w' b (pushCells T S L G i push0) 212 ∧ Below w.heap.size w w' := by
  go_enter Try.func138, Try.ntmps138
  go_wp2_with fail
  go_ret
  refine ⟨w.heap.size + 1, rfl, by omega, by simp, Blk.new2 _ _ _ _, ((Below.refl _ _).alloc (Nat.le_refl _) _).alloc (by simp) _⟩
set_option maxHeartbeats 1000000 in
theorem push_nextN (w : World) (b : Nat) (s : PushS) (hB : Blk w b (pushCells T S L G i s) 212) (hm : (pushM T L i).more s = false) :
    Calls Try.prog 139 #[.pointer (some ⟨b, 0, none⟩)] w fun e w' => e = .returned (.tuple #[.agg #[.int .i64 0, .int .i64 0, .int .u64 0, .int .u64 0, .int .u64 0], .bool false]) ∧ Below w.heap.size w w' := by
  have C := hB.cell
  have hm' : ¬ (s.at_ = 1 ∨ s.at_ = 2 ∨ s.at_ = 3) := by simpa [pushM] using hm
  have h1 : (s.at_ == 1) = false := by simp; omega
  have h2 : (s.at_ == 2) = false := by simp; omega
  have h3 : (s.at_ == 3) = false := by simp; omega
  clear hm hm'
  go_enter Try.func139, Try.ntmps139
  go_wp2_with fail
  refine bodyPost_ret (v := .tuple #[.agg #[.int .i64 0, .int .i64 0, .int .u64 0, .int .u64 0, .int .u64 0], .bool false]) (by simp [results, Try.results139, go_sem]) rfl ⟨rfl, ?_⟩
  exact (Below.refl _ _).alloc (Nat.le_refl _) _
set_option maxHeartbeats 2000000 in
theorem push_nextY (w : World) (b : Nat) (s : PushS) (hB : Blk w b (pushCells T S L G i s) 212) (hm : (pushM T L i).more s = true) :
    Calls Try.prog 139 #[.pointer (some ⟨b, 0, none⟩)] w fun e w' => e = .returned (.tuple #[((pushM T L i).deed s).val, .bool true]) ∧ Below w.heap.size w w' := by
  obtain ⟨at_, h⟩ := s
  have hm' : at_ = 1 ∨ at_ = 2 ∨ at_ = 3 := by simpa [pushM] using hm
  clear hm
  rcases hm' with rfl | rfl | rfl
  · have C := hB.cell
    go_enter Try.func139, Try.ntmps139
    go_wp2_with fail
    refine bodyPost_ret (v := .tuple #[((pushM T L i).deed ⟨1, h⟩).val, .bool true]) (by simp [results, Try.results139, go_sem, pushM, pushDeed]) rfl ⟨rfl, ?_⟩
    exact (Below.refl _ _).alloc (Nat.le_refl _) _
  · have C := hB.cell
    go_enter Try.func139, Try.ntmps139
    go_wp2_with fail
    refine wp_region_tail 15 (by kernel_rfl) (by kernel_rfl) ?_
    simp only [List.take_succ_cons, List.take_zero, List.drop_succ_cons, List.drop_zero]
    repeat (quiet_step ((first | (go_at_call 55; exact calls_later (succ_calls _ _ _ _ _ _)) | (go_at_call 176; exact calls_later ((low_any _ _).mono fun e w' ⟨he, hw⟩ => ⟨he, hw ▸ Below.refl _ _⟩)))))
    refine wpQuiet_nil ?_
    intro w1 hb1
    have R1 := (Blk.new _ _ _).below' hb1
    have C1 := R1.cell
    have F1 := R1.frozen
    go_wp2_with fail
    refine bodyPost_ret (v := .tuple #[((pushM T L i).deed ⟨2, h⟩).val, .bool true]) (by simp [results, Try.results139, go_sem, pushM, pushDeed, C1]) rfl ⟨rfl, ?_⟩
    exact (Only.set5 _ _ _ _ _ _ _).below (Below.step _ hb1) (Nat.le_refl _)
  · have C := hB.cell
    go_enter Try.func139, Try.ntmps139
    go_wp2_with fail
    refine wp_region_tail 15 (by kernel_rfl) (by kernel_rfl) ?_
    simp only [List.take_succ_cons, List.take_zero, List.drop_succ_cons, List.drop_zero]
    repeat (quiet_step ((go_at_call 184; exact calls_later ((turned_any _ _ _).mono fun e w' ⟨he, hw⟩ => ⟨he, hw ▸ Below.refl _ _⟩))))
    refine wpQuiet_nil ?_
    intro w1 hb1
    have R1 := (Blk.new _ _ _).below' hb1
    have C1 := R1.cell
    have F1 := R1.frozen
    go_wp2_with fail
    refine bodyPost_ret (v := .tuple #[((pushM T L i).deed ⟨3, h⟩).val, .bool true]) (by simp [results, Try.results139, go_sem, pushM, pushDeed, C1]) rfl ⟨rfl, ?_⟩
    exact (Only.set5 _ _ _ _ _ _ _).below (Below.step _ hb1) (Nat.le_refl _)
set_option maxHeartbeats 1000000 in
theorem push_tell (w : World) (b : Nat) (s : PushS) (x : Int) (hB : Blk w b (pushCells T S L G i s) 212) :
    Calls Try.prog 140 #[.pointer (some ⟨b, 0, none⟩), .int .u64 x] w fun e w' => e = .returned (.tuple #[]) ∧ Blk w' b (pushCells T S L G i ((pushM T L i).tell s x)) 212 ∧ Mod (fun k => k = b) w w' := by
  obtain ⟨at_, h⟩ := s
  have ct : (pushM T L i).tell = pushTell := rfl
  rw [ct]
  have C := hB.cell
  have F := hB.frozen
  by_cases h1 : at_ = 1
  · subst h1
    have e : pushTell ⟨1, h⟩ x = ⟨2, x⟩ := by simp [pushTell]
    rw [e]
    clear e
    go_enter Try.func140, Try.ntmps140
    go_wp2_with fail
    go_returns
    exact ⟨rfl, (hB.set 5 (.int .u64 x)).set 4 (.int .i64 2), ((Mod.refl (fun k => k = b) w).setCell (a := ⟨b, 5, none⟩) (fun _ => rfl) _).setCell (a := ⟨b, 4, none⟩) (fun _ => rfl) _⟩
  · by_cases h2 : at_ = 2
    · subst h2
      have e : pushTell ⟨2, h⟩ x = ⟨3, h⟩ := by simp [pushTell]
      rw [e]
      clear e h1
      go_enter Try.func140, Try.ntmps140
      go_wp2_with fail
      go_returns
      exact ⟨rfl, hB.set 4 (.int .i64 3), (Mod.refl (fun k => k = b) w).setCell (a := ⟨b, 4, none⟩) (fun _ => rfl) _⟩
    · have b1 : (at_ == 1) = false := by simpa using h1
      have b2 : (at_ == 2) = false := by simpa using h2
      by_cases h3 : at_ = 3
      · subst h3
        by_cases hx : x = h
        · subst hx
          have e : pushTell ⟨3, x⟩ x = ⟨0, x⟩ := by simp [pushTell]
          rw [e]
          clear e h1 h2
          go_enter Try.func140, Try.ntmps140
          go_wp2_with fail
          go_returns
          exact ⟨rfl, hB.set 4 (.int .i64 0), (Mod.refl (fun k => k = b) w).setCell (a := ⟨b, 4, none⟩) (fun _ => rfl) _⟩
        · have e : pushTell ⟨3, h⟩ x = ⟨1, h⟩ := by simp [pushTell, hx]
          rw [e]
          have bx : (x != h) = true := by simpa using hx
          clear e h1 h2 hx
          go_enter Try.func140, Try.ntmps140
          go_wp2_with fail
          go_returns
          exact ⟨rfl, (hB.set 4 (.int .i64 0)).set 4 (.int .i64 1), ((Mod.refl (fun k => k = b) w).setCell (a := ⟨b, 4, none⟩) (fun _ => rfl) _).setCell (a := ⟨b, 4, none⟩) (fun _ => rfl) _⟩
      · have e : pushTell ⟨at_, h⟩ x = ⟨at_, h⟩ := by simp [pushTell, h1, h2, h3]
        have b3 : (at_ == 3) = false := by simpa using h3
        rw [e]
        clear e h1 h2 h3
        go_enter Try.func140, Try.ntmps140
        go_wp2_with fail
        go_returns
        exact ⟨rfl, hB, Mod.refl _ _⟩
end
end Go.Proofs.Ytgkobmmannkegaa
