/-
  The memory's words (chapter 6): cells.Cells in memory; what each of its methods comes to.
-/
import Derived.Test.YtippfkokgpdmdaaDoorWords
import Derived.Laws.OwnMore
import Derived.Laws.CopyOwn
namespace Go.Proofs.YtippfkokgpdmdaaDoor
open Go Go.RowKit
set_option linter.unusedVariables false

/-- The words lie in block g; block b holds the struct. -/
def CellsAt (w : World) (b g : Nat) (ws : List Int) : Prop := g < w.heap.size ∧ (0 < ws.length → g ≠ b) ∧ ws.length ≤ 4096 ∧ ∃ v, Blk w b [v] 83 ∧ Row w g v ws
section
variable {w w' : World} {b g : Nat} {ws : List Int} {S : Nat → Prop}
theorem CellsAt.mod (h : CellsAt w b g ws) (hm : Mod S w w') (hb : ¬ S b) (hg : ¬ S g) : CellsAt w' b g ws := by
  obtain ⟨h1, h2, h3, v, hB, hR⟩ := h
  exact ⟨Nat.lt_of_lt_of_le h1 hm.size, h2, h3, v, hm.blk hB hb, hR.mod hm hg⟩
theorem CellsAt.below (h : CellsAt w b g ws) (hb : Below w.heap.size w w') : CellsAt w' b g ws := h.mod (Mod.of_below (S := fun _ => False) hb) id id
theorem CellsAt.lt (h : CellsAt w b g ws) : b < w.heap.size ∧ g < w.heap.size := by
  obtain ⟨h1, h2, h3, v, hB, hR⟩ := h
  exact ⟨hB.lt, h1⟩
theorem CellsAt.few (h : CellsAt w b g ws) : ws.length ≤ 4096 := h.2.2.1
end

theorem info22 : (Tryd.prog.info? 22).map (fun i => (i.zero, i.size, i.bytes)) = some (some (.int .u64 0), 1, 8) := by kernel_rfl
theorem run_mk64 (n : Nat) (hn : n ≤ 65536) (w : World) :
    (Instr.makeSlice 52 (.int .i64 (n : Int)) (.int .i64 (n : Int))).run Tryd.prog w = .ok (.slice (some ⟨w.heap.size, 0, none⟩) n n) (w.alloc (.cells (u64s (List.replicate n 0)).toArray 22)) := by
  obtain ⟨i0, hi, hz0, hz1, hz2⟩ := info_parts info22
  have hb : (i0.bytes : Int) * (n : Int) ≤ 281474976710656 := by rw [hz2]; omega
  have hr := run_make (P := Tryd.prog) w 52 22 i0 (.int .u64 0) Tryd.underlying52 hi hz0 .i64 .i64 (n : Int) (n : Int) (by omega) (by omega) hb (by omega)
  simp only [Int.toNat_natCast] at hr
  rw [hr, hz1]
  have e : madeCells (Value.int .u64 0).cells (n * 1) = (u64s (List.replicate n 0)).toArray := by
    rw [Nat.mul_one]
    apply Array.ext'
    have := toList_madeCells_one (.int .u64 0) n
    simpa [Value.cells, u64s] using this
  rw [e]
theorem row_made (w : World) (ws : List Int) : Row (w.alloc (.cells (u64s ws).toArray 22)) w.heap.size (.slice (some ⟨w.heap.size, 0, none⟩) ws.length ws.length) ws :=
  ⟨_, _, rfl, Nat.le_refl _, fun _ => ⟨rfl, _, heap_alloc_new w _, by simp, by simp [List.take_of_length_le]⟩⟩

theorem cells_new (n : Nat) (hn : n ≤ 4096) (w : World) : Calls Tryd.prog 68 #[.int .i64 (n : Int)] w fun e w' =>
    ∃ b g, e = .returned (.tuple #[.pointer (some ⟨b, 0, none⟩), .int .i64 0]) ∧ CellsAt w' b g (List.replicate n 0) ∧ w.heap.size ≤ b ∧ w.heap.size ≤ g ∧ Below w.heap.size w w' := by
  have hmk := fun W => run_mk64 n (by omega) W
  go_enter Tryd.func68, Tryd.ntmps68
  go_wp2_with fail
  go_ret2
  refine ⟨w.heap.size + 1, w.heap.size, rfl, ⟨by simp; omega, fun _ => by omega, by simpa using hn, _, Blk.new2 _ _ _ _, ?_⟩, by omega, by omega, ((Below.refl _ _).alloc (Nat.le_refl _) _).alloc (by simp) _⟩
  have := (row_made w (List.replicate n 0)).alloc (.cells #[.slice (some ⟨w.heap.size, 0, none⟩) n n] 83)
  simpa using this
theorem cells_new_no (n : Int) (hn : n < 0 ∨ 4096 < n) (w : World) : Calls Tryd.prog 68 #[.int .i64 n] w fun e w' => e = .returned (.tuple #[.pointer none, .int .i64 2]) ∧ Below w.heap.size w w' := by
  rcases hn with hn | hn
  · go_enter Tryd.func68, Tryd.ntmps68
    go_wp2_with fail
    go_ret2
    exact ⟨rfl, Below.refl _ _⟩
  · have h0 : ¬ n < 0 := by omega
    go_enter Tryd.func68, Tryd.ntmps68
    go_wp2_with fail
    go_ret2
    exact ⟨rfl, Below.refl _ _⟩
theorem cells_len (w : World) (b g : Nat) (ws : List Int) (h : CellsAt w b g ws) : Calls Tryd.prog 105 #[.pointer (some ⟨b, 0, none⟩)] w fun e w' => e = .returned (.int .i64 (ws.length : Int)) ∧ w = w' := by
  obtain ⟨h1, h2, h3, v, hB, hR⟩ := h
  obtain ⟨a, c, rfl, _⟩ := hR.len
  have C := hB.cell
  clear hR
  go_enter Tryd.func105, Tryd.ntmps105
  go_wp2_with fail
  go_ret
  exact ⟨rfl, rfl⟩
theorem cells_len_nil (w : World) : Calls Tryd.prog 105 #[.pointer none] w fun e w' => e = .returned (.int .i64 0) ∧ w = w' := by
  go_enter Tryd.func105, Tryd.ntmps105
  go_wp2_with fail
  go_ret
  exact ⟨rfl, rfl⟩
theorem cells_word_no (w : World) (b g : Nat) (ws : List Int) (h : CellsAt w b g ws) (at_ : Int) (hat : ¬ (0 ≤ at_ ∧ at_ < ws.length)) :
    Calls Tryd.prog 93 #[.pointer (some ⟨b, 0, none⟩), .int .i64 at_] w fun e w' => e = .returned (.pointer none) ∧ w = w' := by
  have H := Lib.hid h
  clear h
  by_cases h0 : at_ < 0
  · clear hat
    go_enter Tryd.func93, Tryd.ntmps93
    go_wp2_with fail
    go_ret
    exact ⟨rfl, rfl⟩
  · have h1 : decide ((ws.length : Int) ≤ at_) = true := by simp; omega
    clear hat
    go_enter Tryd.func93, Tryd.ntmps93
    go_wp2_with (go_at_call 105; refine (cells_len _ _ _ _ H.out).mono ?_; rintro e w' ⟨rfl, rfl⟩)
    go_ret
    exact ⟨rfl, rfl⟩
theorem cells_word (w : World) (b g : Nat) (ws : List Int) (h : CellsAt w b g ws) (j : Nat) (hj : j < ws.length) :
    Calls Tryd.prog 93 #[.pointer (some ⟨b, 0, none⟩), .int .i64 (j : Int)] w fun e w' => e = .returned (.pointer (some ⟨g, j, none⟩)) ∧ w = w' := by
  have H := Lib.hid h
  obtain ⟨h1, h2, h3, v, hB, hR⟩ := h
  obtain ⟨c, rfl, _⟩ := hR.addr (by omega)
  have C := hB.cell
  clear hR
  have hd : decide ((ws.length : Int) ≤ (j : Int)) = false := by simp; omega
  go_enter Tryd.func93, Tryd.ntmps93
  go_wp2_with (go_at_call 105; refine (cells_len _ _ _ _ H.out).mono ?_; rintro e w' ⟨rfl, rfl⟩)
  go_ret
  exact ⟨rfl, rfl⟩
theorem cells_load (w : World) (b g : Nat) (ws : List Int) (h : CellsAt w b g ws) (at_ : Int) :
    Calls Tryd.prog 78 #[.pointer (some ⟨b, 0, none⟩), .int .i64 at_] w fun e w' => e = .returned (.int .u64 (wget ws at_)) ∧ w = w' := by
  have H := Lib.hid h
  by_cases hat : 0 ≤ at_ ∧ at_ < ws.length
  · obtain ⟨j, rfl⟩ : ∃ j : Nat, at_ = j := ⟨at_.toNat, by omega⟩
    have hj : j < ws.length := by omega
    obtain ⟨h1, h2, h3, v, hB, hR⟩ := h
    have C := hR.cell j hj
    rw [wget_nat hj]
    clear hR hB hat
    go_enter Tryd.func78, Tryd.ntmps78
    go_wp2_with (go_at_call 93; refine (cells_word _ _ _ _ H.out _ hj).mono ?_; rintro e w' ⟨rfl, rfl⟩)
    go_ret
    exact ⟨rfl, rfl⟩
  · rw [wget_out hat]
    have HA := Lib.hid hat
    clear hat h
    go_enter Tryd.func78, Tryd.ntmps78
    go_wp2_with (go_at_call 93; refine (cells_word_no _ _ _ _ H.out _ HA.out).mono ?_; rintro e w' ⟨rfl, rfl⟩)
    go_ret
    exact ⟨rfl, rfl⟩

theorem cells_load_nil (w : World) (at_ : Int) : Calls Tryd.prog 78 #[.pointer none, .int .i64 at_] w fun e w' => e = .returned (.int .u64 0) ∧ w = w' := by
  have hw : ∀ W, Calls Tryd.prog 93 #[.pointer none, .int .i64 at_] W fun e w' => e = .returned (.pointer none) ∧ W = w' := by
    intro W
    by_cases h0 : at_ < 0
    · go_enter Tryd.func93, Tryd.ntmps93
      go_wp2_with fail
      go_ret
      exact ⟨rfl, rfl⟩
    · have h1 : decide ((0 : Int) ≤ at_) = true := by simp; omega
      go_enter Tryd.func93, Tryd.ntmps93
      go_wp2_with (go_at_call 105; refine (cells_len_nil _).mono ?_; rintro e w' ⟨rfl, rfl⟩)
      go_ret
      exact ⟨rfl, rfl⟩
  have HW := Lib.hid hw
  clear hw
  go_enter Tryd.func78, Tryd.ntmps78
  go_wp2_with (go_at_call 93; refine (HW.out _).mono ?_; rintro e w' ⟨rfl, rfl⟩)
  go_ret
  exact ⟨rfl, rfl⟩

/-- What an access that turns a word comes to. -/
abbrev Turned (w : World) (b g : Nat) (ws : List Int) (at_ x : Int) (e : Ending) (w' : World) : Prop :=
  e = .returned (.int .u64 (wget ws at_)) ∧ CellsAt w' b g (wset ws at_ x) ∧ Mod (fun k => k = g) w w'

theorem turn_no (w : World) (b g : Nat) (ws : List Int) (h : CellsAt w b g ws) (at_ : Int) (hat : ¬ (0 ≤ at_ ∧ at_ < ws.length)) (f : Value) :
    Calls Tryd.prog 94 #[.pointer (some ⟨b, 0, none⟩), .int .i64 at_, f] w fun e w' => e = .returned (.int .u64 0) ∧ w = w' := by
  have H := Lib.hid h
  have HA := Lib.hid hat
  clear h hat
  go_enter Tryd.func94, Tryd.ntmps94
  go_wp2_with (go_at_call 93; refine (cells_word_no _ _ _ _ H.out _ HA.out).mono ?_; rintro e w' ⟨rfl, rfl⟩)
  go_ret
  exact ⟨rfl, rfl⟩
theorem clo164 (w : World) (A : Nat) (x y : Int) (hA : w.cell? ⟨A, 0, none⟩ = some (.int .u64 x)) : Calls Tryd.prog 95 #[.int .u64 y, .pointer (some ⟨A, 0, none⟩)] w fun e w' => e = .returned (.int .u64 x) ∧ w = w' := by
  go_enter Tryd.func95, Tryd.ntmps95
  go_wp2_with fail
  go_ret
  exact ⟨rfl, rfl⟩
theorem clo165 (w : World) (A B : Nat) (o x y : Int) (hA : w.cell? ⟨A, 0, none⟩ = some (.int .u64 o)) (hB : w.cell? ⟨B, 0, none⟩ = some (.int .u64 x)) :
    Calls Tryd.prog 96 #[.int .u64 y, .pointer (some ⟨A, 0, none⟩), .pointer (some ⟨B, 0, none⟩)] w fun e w' => e = .returned (.int .u64 (swp y o x)) ∧ w = w' := by
  by_cases hy : y = o
  · subst hy
    go_enter Tryd.func96, Tryd.ntmps96
    go_wp2_with fail
    go_ret
    exact ⟨ret_u64 (by simp [swp]), rfl⟩
  · have hb : (y == o) = false := by simpa using hy
    have HY := Lib.hid hy
    clear hy
    go_enter Tryd.func96, Tryd.ntmps96
    go_wp2_with fail
    go_ret
    exact ⟨ret_u64 (by simp [swp, HY.out]), rfl⟩
theorem clo188 (w : World) (A : Nat) (x y : Int) (hA : w.cell? ⟨A, 0, none⟩ = some (.int .u64 x)) : Calls Tryd.prog 97 #[.int .u64 y, .pointer (some ⟨A, 0, none⟩)] w fun e w' => e = .returned (.int .u64 ((y + x) % 18446744073709551616)) ∧ w = w' := by
  go_enter Tryd.func97, Tryd.ntmps97
  go_wp2_with fail
  go_ret
  exact ⟨rfl, rfl⟩
theorem turn_store (w : World) (b g : Nat) (ws : List Int) (h : CellsAt w b g ws) (j : Nat) (hj : j < ws.length) (A : Nat) (x : Int) (hA : w.cell? ⟨A, 0, none⟩ = some (.int .u64 x)) :
    Calls Tryd.prog 94 #[.pointer (some ⟨b, 0, none⟩), .int .i64 (j : Int), .func (.func 95) #[] #[.pointer (some ⟨A, 0, none⟩)]] w fun e w' => e = .returned (.int .u64 ws[j]) ∧ w.setCell ⟨g, j, none⟩ (.int .u64 (x)) = w' := by
  have H := Lib.hid h
  obtain ⟨h1, h2, h3, v, hB, hR⟩ := h
  have C := hR.cell j hj
  have F := hR.frozen (by omega) j
  clear hR hB
  generalize hx : ws[j] = y at *
  have HX := Lib.hid hx
  clear hx
  go_enter Tryd.func94, Tryd.ntmps94
  go_wp2_with (go_at_call 93; refine (cells_word _ _ _ _ H.out _ hj).mono ?_; rintro e w' ⟨rfl, rfl⟩)
  refine (clo164 _ _ x _ hA).mono ?_
  rintro e w' ⟨rfl, rfl⟩
  go_wp2_with fail
  go_ret
  exact ⟨rfl, rfl⟩
theorem turn_swap (w : World) (b g : Nat) (ws : List Int) (h : CellsAt w b g ws) (j : Nat) (hj : j < ws.length) (A B : Nat) (o x : Int) (hA : w.cell? ⟨A, 0, none⟩ = some (.int .u64 o)) (hB : w.cell? ⟨B, 0, none⟩ = some (.int .u64 x)) :
    Calls Tryd.prog 94 #[.pointer (some ⟨b, 0, none⟩), .int .i64 (j : Int), .func (.func 96) #[] #[.pointer (some ⟨A, 0, none⟩), .pointer (some ⟨B, 0, none⟩)]] w fun e w' => e = .returned (.int .u64 ws[j]) ∧ w.setCell ⟨g, j, none⟩ (.int .u64 (swp ws[j] o x)) = w' := by
  have H := Lib.hid h
  obtain ⟨h1, h2, h3, v, hB, hR⟩ := h
  have C := hR.cell j hj
  have F := hR.frozen (by omega) j
  clear hR hB
  generalize hx : ws[j] = y at *
  have HX := Lib.hid hx
  clear hx
  go_enter Tryd.func94, Tryd.ntmps94
  go_wp2_with (go_at_call 93; refine (cells_word _ _ _ _ H.out _ hj).mono ?_; rintro e w' ⟨rfl, rfl⟩)
  refine (clo165 _ _ _ o x _ hA hB).mono ?_
  rintro e w' ⟨rfl, rfl⟩
  go_wp2_with fail
  go_ret
  exact ⟨rfl, rfl⟩
theorem turn_add (w : World) (b g : Nat) (ws : List Int) (h : CellsAt w b g ws) (j : Nat) (hj : j < ws.length) (A : Nat) (x : Int) (hA : w.cell? ⟨A, 0, none⟩ = some (.int .u64 x)) :
    Calls Tryd.prog 94 #[.pointer (some ⟨b, 0, none⟩), .int .i64 (j : Int), .func (.func 97) #[] #[.pointer (some ⟨A, 0, none⟩)]] w fun e w' => e = .returned (.int .u64 ws[j]) ∧ w.setCell ⟨g, j, none⟩ (.int .u64 ((ws[j] + x) % 18446744073709551616)) = w' := by
  have H := Lib.hid h
  obtain ⟨h1, h2, h3, v, hB, hR⟩ := h
  have C := hR.cell j hj
  have F := hR.frozen (by omega) j
  clear hR hB
  generalize hx : ws[j] = y at *
  have HX := Lib.hid hx
  clear hx
  go_enter Tryd.func94, Tryd.ntmps94
  go_wp2_with (go_at_call 93; refine (cells_word _ _ _ _ H.out _ hj).mono ?_; rintro e w' ⟨rfl, rfl⟩)
  refine (clo188 _ _ x _ hA).mono ?_
  rintro e w' ⟨rfl, rfl⟩
  go_wp2_with fail
  go_ret
  exact ⟨rfl, rfl⟩
theorem turned_at {w w1 : World} {b g : Nat} {ws : List Int} (h : CellsAt w1 b g ws) (hb : Below w.heap.size w w1) (j : Nat) (hj : j < ws.length) (x : Int) :
    Turned w b g ws j x (.returned (.int .u64 ws[j])) (w1.setCell ⟨g, j, none⟩ (.int .u64 x)) := by
  obtain ⟨h1, h2, h3, v, hB, hR⟩ := h
  refine ⟨by rw [wget_nat hj], ?_, (Mod.of_below (S := fun k => k = g) hb).setCell (a := ⟨g, j, none⟩) (fun _ => rfl) _⟩
  rw [wset_nat hj]
  exact ⟨by simpa using h1, by simpa using h2, by simpa using h3, v, hB.set_other (h2 (by omega)) _, hR.set j hj x⟩
theorem turned_no {w w1 : World} {b g : Nat} {ws : List Int} (h : CellsAt w1 b g ws) (hb : Below w.heap.size w w1) (at_ x : Int) (hat : ¬ (0 ≤ at_ ∧ at_ < ws.length)) :
    Turned w b g ws at_ x (.returned (.int .u64 0)) w1 := by
  refine ⟨by rw [wget_out hat], ?_, Mod.of_below hb⟩
  rw [wset_out x hat]; exact h
theorem cells_store (w : World) (b g : Nat) (ws : List Int) (h : CellsAt w b g ws) (at_ x : Int) : Calls Tryd.prog 80 #[.pointer (some ⟨b, 0, none⟩), .int .i64 at_, .int .u64 x] w (Turned w b g ws at_ x) := by
  have hb : Below w.heap.size w (w.alloc (.cells #[.int .u64 x] 22)) := (Below.refl _ _).alloc (Nat.le_refl _) _
  have H1 := Lib.hid (h.below hb)
  have HB := Lib.hid hb
  clear h hb
  by_cases hat : 0 ≤ at_ ∧ at_ < ws.length
  · obtain ⟨j, rfl⟩ : ∃ j : Nat, at_ = j := ⟨at_.toNat, by omega⟩
    have hj : j < ws.length := by omega
    clear hat
    go_enter Tryd.func80, Tryd.ntmps80
    go_wp2_with (go_at_call 94; refine (turn_store _ b g ws H1.out j hj w.heap.size x ((Blk.new w [.int .u64 x] 22).cell 0)).mono ?_; rintro e w' ⟨rfl, rfl⟩)
    go_ret
    exact turned_at H1.out HB.out j hj x
  · have HA := Lib.hid hat
    clear hat
    go_enter Tryd.func80, Tryd.ntmps80
    go_wp2_with (go_at_call 94; refine (turn_no _ b g ws H1.out at_ HA.out _).mono ?_; rintro e w' ⟨rfl, rfl⟩)
    go_ret
    exact turned_no H1.out HB.out at_ x HA.out
theorem cells_add (w : World) (b g : Nat) (ws : List Int) (h : CellsAt w b g ws) (at_ x : Int) : Calls Tryd.prog 84 #[.pointer (some ⟨b, 0, none⟩), .int .i64 at_, .int .u64 x] w (Turned w b g ws at_ ((wget ws at_ + x) % 18446744073709551616)) := by
  have hb : Below w.heap.size w (w.alloc (.cells #[.int .u64 x] 22)) := (Below.refl _ _).alloc (Nat.le_refl _) _
  have H1 := Lib.hid (h.below hb)
  have HB := Lib.hid hb
  clear h hb
  by_cases hat : 0 ≤ at_ ∧ at_ < ws.length
  · obtain ⟨j, rfl⟩ : ∃ j : Nat, at_ = j := ⟨at_.toNat, by omega⟩
    have hj : j < ws.length := by omega
    clear hat
    go_enter Tryd.func84, Tryd.ntmps84
    go_wp2_with (go_at_call 94; refine (turn_add _ b g ws H1.out j hj w.heap.size x ((Blk.new w [.int .u64 x] 22).cell 0)).mono ?_; rintro e w' ⟨rfl, rfl⟩)
    go_ret
    rw [wget_nat hj]
    exact turned_at H1.out HB.out j hj _
  · have HA := Lib.hid hat
    clear hat
    go_enter Tryd.func84, Tryd.ntmps84
    go_wp2_with (go_at_call 94; refine (turn_no _ b g ws H1.out at_ HA.out _).mono ?_; rintro e w' ⟨rfl, rfl⟩)
    go_ret
    exact turned_no H1.out HB.out at_ _ HA.out
theorem cells_swap (w : World) (b g : Nat) (ws : List Int) (h : CellsAt w b g ws) (at_ o x : Int) : Calls Tryd.prog 82 #[.pointer (some ⟨b, 0, none⟩), .int .i64 at_, .int .u64 o, .int .u64 x] w (Turned w b g ws at_ (swp (wget ws at_) o x)) := by
  have hb : Below w.heap.size w ((w.alloc (.cells #[.int .u64 o] 22)).alloc (.cells #[.int .u64 x] 22)) := ((Below.refl _ _).alloc (Nat.le_refl _) _).alloc (by simp) _
  have H1 := Lib.hid (h.below hb)
  have HB := Lib.hid hb
  clear h hb
  by_cases hat : 0 ≤ at_ ∧ at_ < ws.length
  · obtain ⟨j, rfl⟩ : ∃ j : Nat, at_ = j := ⟨at_.toNat, by omega⟩
    have hj : j < ws.length := by omega
    clear hat
    go_enter Tryd.func82, Tryd.ntmps82
    go_wp2_with (go_at_call 94; refine (turn_swap _ b g ws H1.out j hj w.heap.size (w.heap.size + 1) o x (((Blk.new w [.int .u64 o] 22).alloc _).cell 0) ((Blk.new2 w _ [.int .u64 x] 22).cell 0)).mono ?_; rintro e w' ⟨rfl, rfl⟩)
    go_ret
    rw [wget_nat hj]
    exact turned_at H1.out HB.out j hj _
  · have HA := Lib.hid hat
    clear hat
    go_enter Tryd.func82, Tryd.ntmps82
    go_wp2_with (go_at_call 94; refine (turn_no _ b g ws H1.out at_ HA.out _).mono ?_; rintro e w' ⟨rfl, rfl⟩)
    go_ret
    exact turned_no H1.out HB.out at_ _ HA.out

/-! ### A copy of a list of words -/
@[go_sem ↓] theorem run_eql_nil25 (w : World) (a : Option Addr) (n c : Nat) : (binOp .eql 52 (.slice a n c) (.slice none 0 0)).run Tryd.prog w = .ok (.bool a.isNone) w :=
  Lib.run_eql_slice_nil w 52 22 a n c 0 0 Tryd.underlying52
set_option maxRecDepth 100000 in
theorem clone64_nil (n c : Nat) (w : World) : Calls Tryd.prog 70 #[.slice none n c] w fun e w' => e = .returned (.slice none 0 0) ∧ w = w' := by
  go_enter Tryd.func70, Tryd.ntmps70
  go_wp2_with fail
  go_ret
  exact ⟨rfl, rfl⟩
set_option maxRecDepth 100000 in
theorem clone64 (hi : Nat) (v : Value) (ws : List Int) (w : World) (h : U64s w hi v ws) (hn : ws.length ≤ 65000) : Calls Tryd.prog 70 #[v] w fun e w' =>
    ∃ va vc, e = .returned (.slice va ws.length vc) ∧ w'.ownsRow w.heap.size 22 1 (.slice va ws.length vc) ws.length (u64s ws) ∧ Below w.heap.size w w' := by
  obtain ⟨a, c, rfl, hc⟩ := h.ex
  cases a with
  | none =>
    have h0 : ws = [] := by
      rcases Nat.eq_zero_or_pos ws.length with h0 | h0
      · exact List.eq_nil_of_length_eq_zero h0
      · obtain ⟨_, _, h1, _⟩ := hc h0; cases h1
    subst h0
    refine (clone64_nil _ _ _).mono ?_
    rintro e w' ⟨rfl, rfl⟩
    exact ⟨none, 0, rfl, World.ownsRow_nil _ _ _ _, Below.refl _ _⟩
  | some ad =>
    obtain ⟨i0, hi, hz0, hz1, hz2⟩ := info_parts info22
    have hcell : ∀ j u, (u64s ws)[j]? = some u → (w.alloc (.cells #[] 22)).cell? (ad.add j) = some u := by
      intro j u hu
      have hj : j < ws.length := by simpa using (List.getElem?_eq_some_iff.1 hu).1
      obtain ⟨b, off, h1, hb, hcs⟩ := hc (by omega)
      cases h1
      rw [Addr.add_lit, World.cell?_alloc_lt _ _ _ (World.block_lt_of_cell? w _ (hcs j hj)), hcs j hj, ← hu, u64s_get ws j hj]
    have HC := Lib.hid hcell
    clear hcell hc h
    go_enter Tryd.func70, Tryd.ntmps70
    go_wp2_with (at_builtin; refine wpList_append_own _ rfl _ _ 52 rfl w.heap.size 22 i0 (.int .u64 0) 1 8 Tryd.underlying52 hi hz0 hz1 hz2 rfl (by decide) (.slice (some ⟨w.heap.size, 0, none⟩) 0 0) 0 [] rfl (World.ownsRow_made w #[] 0 (Nat.le_refl _) (by unfold maxLen; omega) rfl) ad ws.length c (u64s ws) rfl ?c1 ?c2 ?c3 ?c4 ?c5 ?c6 ?_)
    case c1 => simp
    case c2 => exact HC.out
    case c3 => exact u64s_one ws
    case c4 => unfold maxLen; omega
    case c5 => omega
    case c6 => simp
    intro v' w1 hown hg _
    have HO := Lib.hid hown
    have HG := Lib.hid hg
    clear hown hg
    obtain ⟨va, vc, rfl⟩ := owns_shape HO.out
    go_wp2_with fail
    go_ret
    refine ⟨va, vc, by simp, by simpa using HO.out, ?_⟩
    exact ((Below.refl _ w).alloc (Nat.le_refl _) _).grown HG.out (by simp) (fun k hk => by simp [Value.ownBlock] at hk; omega)

theorem blk_u64s {w : World} {b : Nat} {ws : List Int} (h : Blk w b (u64s ws) 22) : U64s w (b + 1) (.slice (some ⟨b, 0, none⟩) ws.length ws.length) ws :=
  ⟨_, _, rfl, fun hn => ⟨b, 0, rfl, by omega, fun j hj => by rw [h.cell, Nat.zero_add, u64s_get ws j hj]⟩⟩
/-- A copy of words that lies in memory of the call's own. -/
abbrev NewRow (w : World) (ws : List Int) (e : Ending) (w' : World) : Prop :=
  ∃ va vc g, e = .returned (.slice va ws.length vc) ∧ Row w' g (.slice va ws.length vc) ws ∧ w.heap.size ≤ g ∧ (0 < ws.length → g < w'.heap.size) ∧ Below w.heap.size w w'
theorem cells_words_nil (w : World) : Calls Tryd.prog 49 #[.pointer none] w fun e w' => e = .returned (.slice none 0 0) ∧ w = w' := by
  go_enter Tryd.func49, Tryd.ntmps49
  go_wp2_with fail
  go_ret
  exact ⟨rfl, rfl⟩
theorem cells_words (w : World) (b g : Nat) (ws : List Int) (h : CellsAt w b g ws) : Calls Tryd.prog 49 #[.pointer (some ⟨b, 0, none⟩)] w (NewRow w ws) := by
  obtain ⟨h1, h2, h3, v, hB, hR⟩ := h
  have C := hB.cell
  have HU := Lib.hid (hR.reads (hi := g + 1) (fun _ => by omega))
  clear hR
  go_enter Tryd.func49, Tryd.ntmps49
  go_wp2_with fail
  refine (clone64 _ _ ws _ HU.out (by omega)).mono ?_
  rintro e w1 ⟨va, vc, rfl, ho, hb⟩
  have HO := Lib.hid ho
  clear ho
  go_wp2_with fail
  go_ret
  obtain ⟨g', hR', hg', hl⟩ := Row.of_own HO.out
  exact ⟨va, vc, g', rfl, hR', hg', hl, hb⟩
/-- New cells, of the call's own. -/
abbrev NewCells (w : World) (ws : List Int) (v : Nat → Value) (e : Ending) (w' : World) : Prop :=
  ∃ b g, e = .returned (v b) ∧ CellsAt w' b g ws ∧ w.heap.size ≤ b ∧ w.heap.size ≤ g ∧ Below w.heap.size w w'
theorem u64s_cells {w : World} {hi : Nat} {a : Option Addr} {c : Nat} {ws : List Int} (h : U64s w hi (.slice a ws.length c) ws) (hn : 0 < ws.length) :
    ∃ b off, a = some ⟨b, off, none⟩ ∧ b < hi ∧ ∀ j (h : j < ws.length), w.cell? ⟨b, off + j, none⟩ = some (.int .u64 ws[j]) := by
  obtain ⟨_, _, hv, hc⟩ := h.ex
  cases hv
  exact hc hn
set_option maxHeartbeats 1000000 in
theorem same64 (w : World) (hi1 hi2 : Nat) (v1 v2 : Value) (d1 d2 : List Int) (h1 : U64s w hi1 v1 d1) (h2 : U64s w hi2 v2 d2) (hn : d1.length ≤ 65000) (hn2 : d2.length ≤ 65000) :
    Calls Tryd.prog 48 #[v1, v2] w fun e w' => e = .returned (.bool (decide (d1 = d2))) ∧ Below w.heap.size w w' := by
  have hx1 := h1
  have hx2 := h2
  obtain ⟨a1, c1, rfl, _⟩ := hx1.ex
  obtain ⟨a2, c2, rfl, _⟩ := hx2.ex
  have H1 := Lib.hid h1
  have H2 := Lib.hid h2
  clear h1 h2 hx1 hx2
  by_cases hl : d1.length = d2.length
  · by_cases h0 : 0 < d1.length
    · obtain ⟨g1, o1, e1, _, K1⟩ := u64s_cells H1.out h0
      obtain ⟨g2, o2, e2, _, K2⟩ := u64s_cells H2.out (by omega)
      cases e1
      cases e2
      have hne : ((d1.length : Int) != (d2.length : Int)) = false := by simp [hl]
      have HL := Lib.hid hl
      have HK1 := Lib.hid K1
      have HK2 := Lib.hid K2
      clear hl K1 K2
      go_enter Tryd.func48, Tryd.ntmps48
      go_wp2_with fail
      go_loopw [5] (fun i wr => ∃ k : Nat, k ≤ d1.length ∧ i = .int .i64 k ∧ Hid (∀ j (hj : j < k) (h1 : j < d1.length) (h2 : j < d2.length), d1[j] = d2[j]) ∧ Below w.heap.size w wr) (fun i _ => d1.length - (intOf i).toNat)
      case atStart => exact ⟨0, by omega, rfl, fun j hj => by omega, Below.refl _ _⟩
      case round =>
        obtain ⟨k, hk, rfl, hs, hb⟩ := hrel
        by_cases hlt : k < d1.length
        · have hlt2 : k < d2.length := by have := HL.out; omega
          have p := HK1.out k hlt
          have q := HK2.out k hlt2
          have p0 := (hb.cell (p := ⟨g1, o1 + k, none⟩) (World.block_lt_of_cell? w _ p)).trans p
          have q0 := (hb.cell (p := ⟨g2, o2 + k, none⟩) (World.block_lt_of_cell? w _ q)).trans q
          clear p q
          by_cases e : d1[k] = d2[k]
          · have hd : (d1[k] != d2[k]) = false := by simpa using e
            have E := Lib.hid e
            clear e
            generalize hx : d1[k] = x at *
            generalize hy : d2[k] = y at *
            have HX := Lib.hid hx
            have HY := Lib.hid hy
            clear hx hy
            go_wp2_with fail
            refine wp_region_reads (by kernel_rfl) (by kernel_rfl) ?_
            repeat (quiet_step (fail))
            refine wpQuiet_nil ?_
            intro w1 hb1
            go_wp2_with fail
            go_roundw
            case rel =>
              refine ⟨k + 1, by omega, by go_num, ?_, hb.trans (hb1.mono hb.size)⟩
              intro j hj j1 j2
              by_cases hjk : j < k
              · exact hs.out j hjk j1 j2
              · obtain rfl : j = k := by omega
                rw [HX.out, HY.out, E.out]
            case measure => simp [intOf]; omega
          · have hd : (d1[k] != d2[k]) = true := by simpa using e
            have E : Hid (d1 ≠ d2) := by intro h; subst h; exact e rfl
            clear e
            generalize hx : d1[k] = x at *
            generalize hy : d2[k] = y at *
            clear hx hy
            go_wp2_with fail
            refine wp_region_reads (by kernel_rfl) (by kernel_rfl) ?_
            repeat (quiet_step (fail))
            refine wpQuiet_nil ?_
            intro w1 hb1
            go_wp2_with fail
            go_ret
            exact ⟨ret_bool (decide_eq_false E.out).symm, hb.trans (hb1.mono hb.size)⟩
        · have E : Hid (d1 = d2) := by
            refine List.ext_getElem HL.out (fun j j1 j2 => hs.out j (by omega) j1 j2)
          go_wp2_with fail
          go_ret
          exact ⟨ret_bool (decide_eq_true E.out).symm, hb⟩
    · obtain rfl : d1 = [] := List.eq_nil_of_length_eq_zero (by omega)
      obtain rfl : d2 = [] := List.eq_nil_of_length_eq_zero (by simpa using hl.symm)
      go_enter Tryd.func48, Tryd.ntmps48
      go_wp2_with fail
      go_loopw [5] (fun i wr => i = .int .i64 0 ∧ Below w.heap.size w wr) (fun i _ => 0)
      case atStart => exact ⟨rfl, Below.refl _ _⟩
      case round =>
        obtain ⟨rfl, hb⟩ := hrel
        go_wp2_with fail
        go_ret
        exact ⟨ret_bool (by simp), hb⟩
  · have hne : ((d1.length : Int) != (d2.length : Int)) = true := by simpa using (fun h => hl (by omega))
    have E : Hid (d1 ≠ d2) := by intro h; exact hl (by rw [h])
    go_enter Tryd.func48, Tryd.ntmps48
    go_wp2_with fail
    go_ret
    exact ⟨ret_bool (decide_eq_false E.out).symm, Below.refl _ _⟩
theorem same64_true (w : World) (hi1 hi2 : Nat) (v1 v2 : Value) (ds : List Int) (h1 : U64s w hi1 v1 ds) (h2 : U64s w hi2 v2 ds) (hn : ds.length ≤ 65000) :
    Calls Tryd.prog 48 #[v1, v2] w fun e w' => e = .returned (.bool true) ∧ Below w.heap.size w w' := by
  have h := same64 w hi1 hi2 v1 v2 ds ds h1 h2 hn hn
  rwa [decide_eq_true rfl] at h

theorem copy_row64 {w : World} {ops : Array Oper} {rest : List Oper} {o : Oper} {a : Act} {Q : Exit → Act → World → Prop} (hgd : o.guard = none) (d s : Operand)
    (ho : o.op = .call { callee := .builtin .copy, args := #[d, s], argTypes := #[52, 52] }) (g n c c' : Nat) (ad : Addr) (hd : a.eval d = .slice (some ⟨g, 0, none⟩) n c') (hs : a.eval s = .slice (some ad) n c)
    (old ws : List Int) (hR : Row w g (.slice (some ⟨g, 0, none⟩) n c') old) (h0 : 0 < n) (hn : ws.length = n) (hsrc : ∀ j (h : j < ws.length), w.cell? (ad.add j) = some (.int .u64 ws[j]))
    (h : ∀ w', Row w' g (.slice (some ⟨g, 0, none⟩) n c') ws → Mod (fun k => k = g) w w' → wpList Tryd.prog ops Q rest (a.put o.dst (goInt n)) w') : wpList Tryd.prog ops Q (o :: rest) a w := by
  obtain ⟨_, _, hv, hc, hx⟩ := hR.ex
  simp only [Value.slice.injEq] at hv
  obtain ⟨_, hl, rfl⟩ := hv
  obtain ⟨_, cur, hg, hsz, _⟩ := hx (by omega)
  refine wpList_copy_own hgd d s 52 52 ho 22 Tryd.underlying52 (by kernel_rfl) g 0 n c' ad n c hd hs cur 22 hg (u64s ws) (by simpa using hn) ?_ (by simp; omega) (u64s_one ws) ?_
  · intro j v hj
    have hj' : j < ws.length := by simpa using (List.getElem?_eq_some_iff.1 hj).1
    rw [hsrc j hj', ← hj, u64s_get ws j hj']
  · have hlen : (u64s ws).length = n := by simpa using hn
    rw [hlen]
    refine h _ ⟨_, c', by rw [hn], by omega, fun _ => ⟨rfl, _, setRow_heap w g cur _ 22 _ hg, ?_, ?_⟩⟩ ⟨rfl, rfl, rfl, by simp, fun k _ hk => setRow_other w g k _ hk⟩
    · simp; omega
    · simp [hn]
set_option maxRecDepth 100000 in
theorem cells_of (w : World) (hi : Nat) (v : Value) (ws : List Int) (h : U64s w hi v ws) (hn : ws.length ≤ 4096) : Calls Tryd.prog 45 #[v] w (NewCells w ws fun b => .tuple #[.pointer (some ⟨b, 0, none⟩), .int .i64 0]) := by
  have hx := h
  obtain ⟨a, c, rfl, _⟩ := hx.ex
  have HU := Lib.hid h
  clear h hx
  go_enter Tryd.func45, Tryd.ntmps45
  go_wp2_with fail
  refine (cells_new ws.length hn _).mono ?_
  rintro e w1 ⟨b, g, rfl, hC, hb, hg, hb1⟩
  have HC := Lib.hid hC
  obtain ⟨h1, h2, h3, v, hB, hR⟩ := hC
  have U1 := Lib.hid (HU.out.below hb1)
  by_cases h0 : 0 < ws.length
  · obtain ⟨c', rfl, _⟩ := hR.addr (by simpa using h0)
    have hlen : (List.replicate ws.length (0 : Int)).length = ws.length := by simp
    rw [hlen] at hB hR h2
    obtain ⟨sb, so, rfl, hsb, hsc⟩ := u64s_cells U1.out h0
    have C := hB.cell
    have HS := Lib.hid hsc
    have HR := Lib.hid hR
    have HB := Lib.hid hB
    clear hR hsc hB HU U1
    go_wp2_with (refine copy_row64 rfl (.tmp 18) (.tmp 19) rfl g ws.length c c' ⟨sb, so, none⟩ rfl rfl _ ws HR.out h0 rfl ?c1 ?_)
    case c1 =>
      intro j hj
      rw [Addr.add_lit]
      exact HS.out j hj
    intro w2 hR2 hM2
    have HR2 := Lib.hid hR2
    clear hR2
    go_wp2_with fail
    go_ret2
    refine ⟨b, g, rfl, ⟨?_, h2, hn, _, hM2.blk HB.out (fun e => h2 h0 e.symm), HR2.out⟩, hb, hg, below_mod hb1 hM2 hb1.size (fun k hk e => by omega)⟩
    have := hM2.size
    omega
  · have hn0 : ws = [] := List.eq_nil_of_length_eq_zero (by omega)
    subst hn0
    obtain ⟨a', c', rfl, _⟩ := hR.len
    have C := hB.cell
    clear hR hB HU U1 h0
    go_wp2_with (refine wpList_copy_nothing rfl (.tmp 18) (.tmp 19) 52 52 rfl 22 Tryd.underlying52 (by kernel_rfl) a' a 0 c' 0 c rfl rfl (by simp) ?_)
    go_ret2
    exact ⟨b, g, rfl, HC.out, hb, hg, hb1⟩
end Go.Proofs.YtippfkokgpdmdaaDoor
