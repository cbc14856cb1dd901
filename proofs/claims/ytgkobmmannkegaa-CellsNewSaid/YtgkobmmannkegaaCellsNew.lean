/-
  The law CellsNew, walked.
-/
import Derived.Test.YtgkobmmannkegaaCellsDo
namespace Go.Proofs.Ytgkobmmannkegaa
open Go Go.RowKit
set_option linter.unusedVariables false
/-- Cells are kept, and nothing that was there has turned. -/
def Kc (w0 : World) (b g : Nat) (ws : List Int) (w : World) : Prop := CellsAt w b g ws ∧ Below w0.heap.size w0 w
theorem Kc.start {w : World} {b g : Nat} {ws : List Int} (h : CellsAt w b g ws) : Kc w b g ws w.drew := ⟨h.below (Below.refl _ _).drew, (Below.refl _ _).drew⟩
theorem Kc.startA {w : World} {b g : Nat} {ws : List Int} (h : CellsAt w b g ws) (o : Obj) : Kc w b g ws (w.alloc o).drew := ⟨h.below ((Below.refl _ _).alloc (Nat.le_refl _) o).drew, ((Below.refl _ _).alloc (Nat.le_refl _) o).drew⟩
theorem Kc.below {w0 w w' : World} {b g : Nat} {ws : List Int} (h : Kc w0 b g ws w) (hb : Below w.heap.size w w') : Kc w0 b g ws w' := ⟨h.1.below hb, h.2.trans (hb.mono h.2.size)⟩
theorem Kc.alloc {w0 w : World} {b g : Nat} {ws : List Int} (h : Kc w0 b g ws w) (o : Obj) : Kc w0 b g ws (w.alloc o) := h.below ((Below.refl _ _).alloc (Nat.le_refl _) _)
theorem Kc.out {w0 w : World} {b g : Nat} {ws : List Int} (h : Kc w0 b g ws w) : Below w0.heap.size w0 w := h.2
theorem Kc.cells {w0 w : World} {b g : Nat} {ws : List Int} (h : Kc w0 b g ws w) : CellsAt w b g ws := h.1
theorem run_mk64' (n : Nat) (hn : n ≤ 65536) (w : World) :
    (Instr.makeSlice 25 (.int .i64 (n : Int)) (.int .i64 (n : Int))).run Try.prog w = .ok (.slice (some ⟨w.heap.size, 0, none⟩) n n) (w.alloc (.cells (Array.replicate n (.int .u64 0)) 22)) := by
  have h := run_mk64 n hn w
  rwa [show (u64s (List.replicate n 0)).toArray = Array.replicate n (.int .u64 0) by simp [u64s]] at h
theorem zeros_u64s (w : World) (n : Nat) : U64s (w.alloc (.cells (Array.replicate n (.int .u64 0)) 22)) (w.heap.size + 1) (.slice (some ⟨w.heap.size, 0, none⟩) n n) (List.replicate n 0) := by
  have h := blk_u64s (ws := List.replicate n 0) (Blk.new w (u64s (List.replicate n 0)) 22)
  rw [show (u64s (List.replicate n 0)).toArray = Array.replicate n (.int .u64 0) by simp [u64s]] at h
  simpa using h
theorem words_rep (w : World) (b g n : Nat) (h : CellsAt w b g (List.replicate n 0)) : Calls Try.prog 94 #[.pointer (some ⟨b, 0, none⟩)] w fun e w' => ∃ va vc, e = .returned (.slice va n vc) ∧ U64s w' w'.heap.size (.slice va n vc) (List.replicate n 0) ∧ Below w.heap.size w w' := by
  refine (cells_words _ _ _ _ h).mono ?_
  rintro e w' ⟨va, vc, g', rfl, hR, hg', hl, hb⟩
  refine ⟨va, vc, by simp, ?_, hb⟩
  have := hR.reads (hi := w'.heap.size) hl
  simpa using this
theorem same_one {w : World} {va : Option Addr} {vc n : Nat} (h : U64s w w.heap.size (.slice va n vc) (List.replicate n 0)) (hn : n ≤ 65000) :
    Calls Try.prog 88 #[.slice va n vc, .slice (some ⟨w.heap.size, 0, none⟩) n n] (w.alloc (.cells (Array.replicate n (.int .u64 0)) 22)) fun e w' => e = .returned (.bool true) ∧ Below (w.alloc (.cells (Array.replicate n (.int .u64 0)) 22)).heap.size (w.alloc (.cells (Array.replicate n (.int .u64 0)) 22)) w' :=
  same64_true _ _ _ _ _ _ (h.below ((Below.refl _ _).alloc (Nat.le_refl _) _)) (zeros_u64s w n) (by simpa using hn)
theorem same_two {w w' : World} {va : Option Addr} {vc n : Nat} (h : U64s w' w'.heap.size (.slice va n vc) (List.replicate n 0)) (hb : Below (w.alloc (.cells (Array.replicate n (.int .u64 0)) 22)).drew.heap.size (w.alloc (.cells (Array.replicate n (.int .u64 0)) 22)).drew w') (hn : n ≤ 65000) :
    Calls Try.prog 88 #[.slice va n vc, .slice (some ⟨w.heap.size, 0, none⟩) n n] w' fun e w'' => e = .returned (.bool true) ∧ Below w'.heap.size w' w'' :=
  same64_true _ _ _ _ _ _ h ((zeros_u64s w n).mod (Mod.of_below (S := fun _ => False) ⟨hb.os, hb.tape, hb.output, hb.size, hb.block⟩) (fun _ _ => id)) (by simpa using hn)
set_option maxHeartbeats 4000000 in
set_option maxRecDepth 100000 in
theorem cellsNew_low (n : Int) (k at_ a c : Int) (hn : n < 0) (w : World) :
    Calls Try.prog 13 #[.int .i64 n, opV k at_ a c] w fun e w' => e = .returned (.bool true) ∧ Below w.heap.size w w' := by
  have HN : Hid (n < 0 ∨ 4096 < n) := by show _ ∨ _; omega
  have P0 := Blk.new w [.int .i64 k, .int .i64 at_, .int .u64 a, .int .u64 c] 84
  have HA := Lib.hid cells_awake
  skip
  go_enter Try.func13, Try.ntmps13
  go_wp2_with fail
  refine (cells_new_no n HN.out _).mono ?_
  rintro e w1 ⟨rfl, hb1⟩
  have P1 := P0.below' hb1
  have C1 := P1.cell
  have W1 := Below.step _ hb1
  clear hb1
  go_wp2_with fail
  refine (do_nil _ _ _ _ _).mono ?_
  rintro e w2 ⟨rfl, hb2⟩
  have W2 := W1.trans (hb2.mono W1.size)
  clear hb2 W1 C1 P1
  go_wp2_with fail
  refine (cells_len_nil _).mono ?_
  rintro e w3 ⟨rfl, rfl⟩
  go_wp2_with fail
  refine (cells_words_nil _).mono ?_
  rintro e w3 ⟨rfl, rfl⟩
  go_wp2_with fail
  refine (cells_copy_nil _).mono ?_
  rintro e w3 ⟨rfl, rfl⟩
  go_wp2_with fail
  refine wp_region_reads (by kernel_rfl) (by kernel_rfl) ?_
  repeat (quiet_step ((go_at_call 90; exact calls_later (HA.out _))))
  refine wpQuiet_nil ?_
  intro w3 hb3
  go_wp2_with fail
  go_ret
  exact ⟨rfl, W2.trans (hb3.mono W2.size)⟩
set_option maxHeartbeats 4000000 in
set_option maxRecDepth 100000 in
theorem cellsNew_high (n : Int) (k at_ a c : Int) (hn : 4096 < n) (w : World) :
    Calls Try.prog 13 #[.int .i64 n, opV k at_ a c] w fun e w' => e = .returned (.bool true) ∧ Below w.heap.size w w' := by
  have HN : Hid (n < 0 ∨ 4096 < n) := by show _ ∨ _; omega
  have P0 := Blk.new w [.int .i64 k, .int .i64 at_, .int .u64 a, .int .u64 c] 84
  have HA := Lib.hid cells_awake
  have h0 : 0 ≤ n := by omega
  have h1 : decide (n ≤ 4096) = false := by simp; omega
  go_enter Try.func13, Try.ntmps13
  go_wp2_with fail
  refine (cells_new_no n HN.out _).mono ?_
  rintro e w1 ⟨rfl, hb1⟩
  have P1 := P0.below' hb1
  have C1 := P1.cell
  have W1 := Below.step _ hb1
  clear hb1
  go_wp2_with fail
  refine (do_nil _ _ _ _ _).mono ?_
  rintro e w2 ⟨rfl, hb2⟩
  have W2 := W1.trans (hb2.mono W1.size)
  clear hb2 W1 C1 P1
  go_wp2_with fail
  refine (cells_len_nil _).mono ?_
  rintro e w3 ⟨rfl, rfl⟩
  go_wp2_with fail
  refine (cells_words_nil _).mono ?_
  rintro e w3 ⟨rfl, rfl⟩
  go_wp2_with fail
  refine (cells_copy_nil _).mono ?_
  rintro e w3 ⟨rfl, rfl⟩
  go_wp2_with fail
  refine wp_region_reads (by kernel_rfl) (by kernel_rfl) ?_
  repeat (quiet_step ((go_at_call 90; exact calls_later (HA.out _))))
  refine wpQuiet_nil ?_
  intro w3 hb3
  go_wp2_with fail
  go_ret
  exact ⟨rfl, W2.trans (hb3.mono W2.size)⟩
set_option maxHeartbeats 4000000 in
set_option maxRecDepth 100000 in
theorem cellsNew_yes (n : Nat) (k at_ a c : Int) (hn : n ≤ 4096) (w : World) :
    Calls Try.prog 13 #[.int .i64 (n : Int), opV k at_ a c] w fun e w' => e = .returned (.bool true) ∧ Below w.heap.size w w' := by
  have P0 := Blk.new w [.int .i64 k, .int .i64 at_, .int .u64 a, .int .u64 c] 84
  have HA := Lib.hid cells_awake
  have hd : decide ((n : Int) ≤ 4096) = true := by simp; omega
  have hmk := fun W => run_mk64' n (by omega) W
  go_enter Try.func13, Try.ntmps13
  go_wp2_with fail
  refine (cells_new n hn _).mono ?_
  rintro e w1 ⟨b, g, rfl, hC, hb, hg, hb1⟩
  have P1 := P0.below' hb1
  have C1 := P1.cell
  have D1 := Lib.hid hC
  have W1 := Below.step _ hb1
  clear hb1 hC
  go_wp2_with fail
  refine (do_nil _ _ _ _ _).mono ?_
  rintro e w2 ⟨rfl, hb2⟩
  have D2 := Lib.hid (D1.out.below hb2)
  have W2 := W1.trans (hb2.mono W1.size)
  clear hb2 W1 C1 P1 D1
  go_wp2_with fail
  refine (cells_len_nil _).mono ?_
  rintro e w3 ⟨rfl, rfl⟩
  go_wp2_with fail
  refine (cells_words_nil _).mono ?_
  rintro e w3 ⟨rfl, rfl⟩
  go_wp2_with fail
  refine (cells_copy_nil _).mono ?_
  rintro e w3 ⟨rfl, rfl⟩
  go_wp2_with fail
  go_upto_region 7 with fail
  go_cut [4] (fun v wx => v = .bool true ∧ Below w.heap.size w wx)
  case first =>
    go_wp2_with fail
    go_region_held3 (fun w' => Kc w2 b g (List.replicate n 0) w')
      ((first | (with_reducible exact Kc.start D2.out) | (with_reducible exact Kc.startA D2.out _) | ((with_reducible refine Kc.below ?_ hb5); assumption) | ((with_reducible refine Kc.alloc ?_ _); assumption)))
      (first | (go_at_call 94; refine (words_rep _ _ _ _ (Kc.cells (by assumption))).mono ?_; rintro e w' ⟨va, vc, rfl, hR, hb5⟩) | (go_at_call 90; refine (HA.out _).mono ?_; rintro e w' ⟨rfl, hb5⟩) |
        (go_at_call 88; (with_reducible refine (same_one hR (by omega)).mono ?_); rintro e w' ⟨rfl, hb5⟩) | (go_at_call 88; (with_reducible refine (same_two hR hb5 (by omega)).mono ?_); rintro e w' ⟨rfl, hb5⟩))
    all_goals go_wp2_with fail
    all_goals go_meet
    all_goals exact ⟨rfl, W2.trans ((Kc.out (by assumption)).mono W2.size)⟩
  case rest =>
    obtain ⟨rfl, hW⟩ := hcut
    go_wp2_with fail
    go_ret
    exact ⟨rfl, hW⟩
end Go.Proofs.Ytgkobmmannkegaa
