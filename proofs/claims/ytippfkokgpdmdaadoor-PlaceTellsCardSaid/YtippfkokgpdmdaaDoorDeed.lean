/-
  deed.Do (chapter 7): what it comes to, on a memory of words.
-/
import Derived.Test.YtippfkokgpdmdaaDoorAlone
namespace Go.Proofs.YtippfkokgpdmdaaDoor
open Go Go.RowKit
set_option linter.unusedVariables false

theorem dd191 (w : World) (b g : Nat) (ws : List Int) (h : CellsAt w b g ws) (d : D) (hk : d.k = 1) : Calls Tryd.prog 77 #[.pointer (some ⟨b, 0, none⟩), d.val] w fun e w' => e = .returned (.int .u64 (dGet ws d)) ∧ CellsAt w' b g (dDo ws d) ∧ Mod (fun k => k = g) w w' := by
  obtain ⟨k, at_, a, c, by_⟩ := d
  simp only at hk
  subst hk
  rw [dGet_load, dDo_load]
  have P0 := Blk.new w [.int .i64 1, .int .i64 at_, .int .u64 a, .int .u64 c, .int .u64 by_] 48
  have C0 := P0.cell
  have H1 := Lib.hid (h.below ((Below.refl _ _).alloc (Nat.le_refl _) (.cells #[.int .i64 1, .int .i64 at_, .int .u64 a, .int .u64 c, .int .u64 by_] 48)))
  clear h P0
  go_enter Tryd.func77, Tryd.ntmps77
  go_wp2_with fail
  refine (cells_load _ _ _ _ H1.out _).mono ?_
  rintro e w1 ⟨rfl, rfl⟩
  go_wp2_with fail
  go_ret
  exact ⟨rfl, H1.out, (Mod.refl _ _).alloc _⟩
theorem dd192 (w : World) (b g : Nat) (ws : List Int) (h : CellsAt w b g ws) (d : D) (hk : d.k = 2) : Calls Tryd.prog 79 #[.pointer (some ⟨b, 0, none⟩), d.val] w fun e w' => e = .returned (.int .u64 (dGet ws d)) ∧ CellsAt w' b g (dDo ws d) ∧ Mod (fun k => k = g) w w' := by
  obtain ⟨k, at_, a, c, by_⟩ := d
  simp only at hk
  subst hk
  rw [dGet_store, dDo_store]
  have P0 := Blk.new w [.int .i64 2, .int .i64 at_, .int .u64 a, .int .u64 c, .int .u64 by_] 48
  have C0 := P0.cell
  have H1 := Lib.hid (h.below ((Below.refl _ _).alloc (Nat.le_refl _) (.cells #[.int .i64 2, .int .i64 at_, .int .u64 a, .int .u64 c, .int .u64 by_] 48)))
  clear h P0
  go_enter Tryd.func79, Tryd.ntmps79
  go_wp2_with fail
  refine (cells_store _ _ _ _ H1.out _ _).mono ?_
  rintro e w1 ⟨rfl, hC, hM⟩
  go_wp2_with fail
  go_ret
  exact ⟨rfl, hC, ((Mod.refl _ _).alloc _).trans' hM⟩
theorem dd193 (w : World) (b g : Nat) (ws : List Int) (h : CellsAt w b g ws) (d : D) (hk : d.k = 3) : Calls Tryd.prog 81 #[.pointer (some ⟨b, 0, none⟩), d.val] w fun e w' => e = .returned (.int .u64 (dGet ws d)) ∧ CellsAt w' b g (dDo ws d) ∧ Mod (fun k => k = g) w w' := by
  obtain ⟨k, at_, a, c, by_⟩ := d
  simp only at hk
  subst hk
  rw [dGet_swap, dDo_swap]
  have P0 := Blk.new w [.int .i64 3, .int .i64 at_, .int .u64 a, .int .u64 c, .int .u64 by_] 48
  have C0 := P0.cell
  have H1 := Lib.hid (h.below ((Below.refl _ _).alloc (Nat.le_refl _) (.cells #[.int .i64 3, .int .i64 at_, .int .u64 a, .int .u64 c, .int .u64 by_] 48)))
  clear h P0
  go_enter Tryd.func81, Tryd.ntmps81
  go_wp2_with fail
  refine (cells_swap _ _ _ _ H1.out _ _ _).mono ?_
  rintro e w1 ⟨rfl, hC, hM⟩
  go_wp2_with fail
  go_ret
  exact ⟨rfl, hC, ((Mod.refl _ _).alloc _).trans' hM⟩
theorem dd194 (w : World) (b g : Nat) (ws : List Int) (h : CellsAt w b g ws) (d : D) (hk : d.k = 4) : Calls Tryd.prog 83 #[.pointer (some ⟨b, 0, none⟩), d.val] w fun e w' => e = .returned (.int .u64 (dGet ws d)) ∧ CellsAt w' b g (dDo ws d) ∧ Mod (fun k => k = g) w w' := by
  obtain ⟨k, at_, a, c, by_⟩ := d
  simp only at hk
  subst hk
  rw [dGet_add, dDo_add]
  have P0 := Blk.new w [.int .i64 4, .int .i64 at_, .int .u64 a, .int .u64 c, .int .u64 by_] 48
  have C0 := P0.cell
  have H1 := Lib.hid (h.below ((Below.refl _ _).alloc (Nat.le_refl _) (.cells #[.int .i64 4, .int .i64 at_, .int .u64 a, .int .u64 c, .int .u64 by_] 48)))
  clear h P0
  go_enter Tryd.func83, Tryd.ntmps83
  go_wp2_with fail
  refine (cells_add _ _ _ _ H1.out _ _).mono ?_
  rintro e w1 ⟨rfl, hC, hM⟩
  go_wp2_with fail
  go_ret
  exact ⟨rfl, hC, ((Mod.refl _ _).alloc _).trans' hM⟩
/-- What a kind does. -/
def kindFn (k : Int) : FuncId := if k = 1 then 191 else if k = 2 then 192 else if k = 3 then 193 else 194
def kindWord (k : Int) : ByteArray := if k = 1 then ⟨#[108, 111, 97, 100]⟩ else if k = 2 then ⟨#[115, 116, 111, 114, 101]⟩ else if k = 3 then ⟨#[115, 119, 97, 112]⟩ else ⟨#[97, 100, 100]⟩
def kindMany (k : Int) : Int := if k = 1 then 0 else if k = 2 then 1 else if k = 3 then 2 else 1
set_option maxHeartbeats 1000000 in
theorem of_no (k : Int) (h : ¬ (1 ≤ k ∧ k ≤ 4)) (w : World) : Calls Tryd.prog 66 #[.int .i64 k] w fun e w' => e = .returned (.tuple #[.agg #[.string ⟨#[]⟩, .int .i64 0, .nilFunc], .bool false]) ∧ Below w.heap.size w w' := by
  by_cases h1 : k < 1
  · clear h
    go_enter Tryd.func66, Tryd.ntmps66
    go_wp2_with fail
    refine bodyPost_ret (v := .tuple #[.agg #[.string ⟨#[]⟩, .int .i64 0, .nilFunc], .bool false]) (by simp [results, Tryd.results66, go_sem]) rfl ⟨rfl, ?_⟩
    exact ((Below.refl _ _).alloc (Nat.le_refl _) _).alloc (by simp) _
  · have h2 : decide (4 < k) = true := by simp; omega
    clear h
    go_enter Tryd.func66, Tryd.ntmps66
    go_wp2_with fail
    refine bodyPost_ret (v := .tuple #[.agg #[.string ⟨#[]⟩, .int .i64 0, .nilFunc], .bool false]) (by simp [results, Tryd.results66, go_sem]) rfl ⟨rfl, ?_⟩
    exact ((Below.refl _ _).alloc (Nat.le_refl _) _).alloc (by simp) _
set_option maxHeartbeats 1000000 in
theorem of_1 (w : World) : Calls Tryd.prog 66 #[.int .i64 1] w fun e w' => e = .returned (.tuple #[.agg #[.string (kindWord 1), .int .i64 (kindMany 1), .func (.func 77) #[] #[]], .bool true]) ∧ Below w.heap.size w w' := by
  go_enter Tryd.func66, Tryd.ntmps66
  go_wp2_with fail
  refine bodyPost_ret (v := .tuple #[.agg #[.string (kindWord 1), .int .i64 (kindMany 1), .func (.func 77) #[] #[]], .bool true]) (by simp [results, Tryd.results66, go_sem, kindWord, kindMany]) rfl ⟨rfl, ?_⟩
  exact ((Below.refl _ _).alloc (Nat.le_refl _) _).alloc (by simp) _
set_option maxHeartbeats 1000000 in
theorem of_2 (w : World) : Calls Tryd.prog 66 #[.int .i64 2] w fun e w' => e = .returned (.tuple #[.agg #[.string (kindWord 2), .int .i64 (kindMany 2), .func (.func 79) #[] #[]], .bool true]) ∧ Below w.heap.size w w' := by
  go_enter Tryd.func66, Tryd.ntmps66
  go_wp2_with fail
  refine bodyPost_ret (v := .tuple #[.agg #[.string (kindWord 2), .int .i64 (kindMany 2), .func (.func 79) #[] #[]], .bool true]) (by simp [results, Tryd.results66, go_sem, kindWord, kindMany]) rfl ⟨rfl, ?_⟩
  exact ((Below.refl _ _).alloc (Nat.le_refl _) _).alloc (by simp) _
set_option maxHeartbeats 1000000 in
theorem of_3 (w : World) : Calls Tryd.prog 66 #[.int .i64 3] w fun e w' => e = .returned (.tuple #[.agg #[.string (kindWord 3), .int .i64 (kindMany 3), .func (.func 81) #[] #[]], .bool true]) ∧ Below w.heap.size w w' := by
  go_enter Tryd.func66, Tryd.ntmps66
  go_wp2_with fail
  refine bodyPost_ret (v := .tuple #[.agg #[.string (kindWord 3), .int .i64 (kindMany 3), .func (.func 81) #[] #[]], .bool true]) (by simp [results, Tryd.results66, go_sem, kindWord, kindMany]) rfl ⟨rfl, ?_⟩
  exact ((Below.refl _ _).alloc (Nat.le_refl _) _).alloc (by simp) _
set_option maxHeartbeats 1000000 in
theorem of_4 (w : World) : Calls Tryd.prog 66 #[.int .i64 4] w fun e w' => e = .returned (.tuple #[.agg #[.string (kindWord 4), .int .i64 (kindMany 4), .func (.func 83) #[] #[]], .bool true]) ∧ Below w.heap.size w w' := by
  go_enter Tryd.func66, Tryd.ntmps66
  go_wp2_with fail
  refine bodyPost_ret (v := .tuple #[.agg #[.string (kindWord 4), .int .i64 (kindMany 4), .func (.func 83) #[] #[]], .bool true]) (by simp [results, Tryd.results66, go_sem, kindWord, kindMany]) rfl ⟨rfl, ?_⟩
  exact ((Below.refl _ _).alloc (Nat.le_refl _) _).alloc (by simp) _
/-- What deed.Do comes to. -/
abbrev DoneAt (w : World) (b g : Nat) (ws : List Int) (d : D) (e : Ending) (w' : World) : Prop := e = .returned (.int .u64 (dGet ws d)) ∧ CellsAt w' b g (dDo ws d) ∧ Mod (fun k => k = g) w w'
theorem deed_no (w : World) (b g : Nat) (ws : List Int) (h : CellsAt w b g ws) (d : D) (hk : ¬ (1 ≤ d.k ∧ d.k ≤ 4)) : Calls Tryd.prog 47 #[.pointer (some ⟨b, 0, none⟩), d.val] w (DoneAt w b g ws d) := by
  obtain ⟨k, at_, a, c, by_⟩ := d
  simp only at hk
  have e1 : Hid (dGet ws ⟨k, at_, a, c, by_⟩ = 0) := if_neg hk
  have e2 : Hid (dDo ws ⟨k, at_, a, c, by_⟩ = ws) := if_neg hk
  have P0 := Blk.new w [.int .i64 k, .int .i64 at_, .int .u64 a, .int .u64 c, .int .u64 by_] 48
  have C0 := P0.cell
  have B1 : Below w.heap.size w (w.alloc (.cells #[.int .i64 k, .int .i64 at_, .int .u64 a, .int .u64 c, .int .u64 by_] 48)) := (Below.refl _ _).alloc (Nat.le_refl _) _
  have HK := Lib.hid hk
  have H := Lib.hid h
  clear h hk
  go_enter Tryd.func47, Tryd.ntmps47
  go_wp2_with fail
  refine (of_no _ HK.out _).mono ?_
  rintro e w1 ⟨rfl, hb⟩
  have W1 := B1.trans (hb.mono B1.size)
  dsimp only
  go_wp2_with fail
  go_ret
  exact ⟨by rw [e1.out]; rfl, by rw [e2.out]; exact H.out.below (W1.alloc W1.size _), Mod.of_below (W1.alloc W1.size _)⟩
theorem deed_1 (w : World) (b g : Nat) (ws : List Int) (h : CellsAt w b g ws) (at_ a c by_ : Int) : Calls Tryd.prog 47 #[.pointer (some ⟨b, 0, none⟩), .agg #[.int .i64 1, .int .i64 at_, .int .u64 a, .int .u64 c, .int .u64 by_]] w (DoneAt w b g ws ⟨1, at_, a, c, by_⟩) := by
  have P0 := Blk.new w [.int .i64 1, .int .i64 at_, .int .u64 a, .int .u64 c, .int .u64 by_] 48
  have C0 := P0.cell
  have B1 : Below w.heap.size w (w.alloc (.cells #[.int .i64 1, .int .i64 at_, .int .u64 a, .int .u64 c, .int .u64 by_] 48)) := (Below.refl _ _).alloc (Nat.le_refl _) _
  have H := Lib.hid h
  clear h
  go_enter Tryd.func47, Tryd.ntmps47
  go_wp2_with fail
  refine (of_1 _).mono ?_
  rintro e w1 ⟨rfl, hb⟩
  have P1 := P0.below' hb
  have C1 := P1.cell
  have W1 := B1.trans (hb.mono B1.size)
  have W2 := W1.alloc W1.size (.cells #[.string (kindWord 1), .int .i64 (kindMany 1), .func (.func 77) #[] #[]] 76)
  have H2 := Lib.hid (H.out.below W2)
  have HW := Lib.hid W2
  clear B1 C0 P0 W1 W2 hb
  dsimp only
  go_wp2_with fail
  refine (dd191 _ b g ws H2.out ⟨1, at_, a, c, by_⟩ rfl).mono ?_
  rintro e w2 ⟨rfl, hC, hM⟩
  go_wp2_with fail
  go_ret
  exact ⟨rfl, hC, (Mod.of_below HW.out).trans' hM⟩
theorem deed_2 (w : World) (b g : Nat) (ws : List Int) (h : CellsAt w b g ws) (at_ a c by_ : Int) : Calls Tryd.prog 47 #[.pointer (some ⟨b, 0, none⟩), .agg #[.int .i64 2, .int .i64 at_, .int .u64 a, .int .u64 c, .int .u64 by_]] w (DoneAt w b g ws ⟨2, at_, a, c, by_⟩) := by
  have P0 := Blk.new w [.int .i64 2, .int .i64 at_, .int .u64 a, .int .u64 c, .int .u64 by_] 48
  have C0 := P0.cell
  have B1 : Below w.heap.size w (w.alloc (.cells #[.int .i64 2, .int .i64 at_, .int .u64 a, .int .u64 c, .int .u64 by_] 48)) := (Below.refl _ _).alloc (Nat.le_refl _) _
  have H := Lib.hid h
  clear h
  go_enter Tryd.func47, Tryd.ntmps47
  go_wp2_with fail
  refine (of_2 _).mono ?_
  rintro e w1 ⟨rfl, hb⟩
  have P1 := P0.below' hb
  have C1 := P1.cell
  have W1 := B1.trans (hb.mono B1.size)
  have W2 := W1.alloc W1.size (.cells #[.string (kindWord 2), .int .i64 (kindMany 2), .func (.func 79) #[] #[]] 76)
  have H2 := Lib.hid (H.out.below W2)
  have HW := Lib.hid W2
  clear B1 C0 P0 W1 W2 hb
  dsimp only
  go_wp2_with fail
  refine (dd192 _ b g ws H2.out ⟨2, at_, a, c, by_⟩ rfl).mono ?_
  rintro e w2 ⟨rfl, hC, hM⟩
  go_wp2_with fail
  go_ret
  exact ⟨rfl, hC, (Mod.of_below HW.out).trans' hM⟩
theorem deed_3 (w : World) (b g : Nat) (ws : List Int) (h : CellsAt w b g ws) (at_ a c by_ : Int) : Calls Tryd.prog 47 #[.pointer (some ⟨b, 0, none⟩), .agg #[.int .i64 3, .int .i64 at_, .int .u64 a, .int .u64 c, .int .u64 by_]] w (DoneAt w b g ws ⟨3, at_, a, c, by_⟩) := by
  have P0 := Blk.new w [.int .i64 3, .int .i64 at_, .int .u64 a, .int .u64 c, .int .u64 by_] 48
  have C0 := P0.cell
  have B1 : Below w.heap.size w (w.alloc (.cells #[.int .i64 3, .int .i64 at_, .int .u64 a, .int .u64 c, .int .u64 by_] 48)) := (Below.refl _ _).alloc (Nat.le_refl _) _
  have H := Lib.hid h
  clear h
  go_enter Tryd.func47, Tryd.ntmps47
  go_wp2_with fail
  refine (of_3 _).mono ?_
  rintro e w1 ⟨rfl, hb⟩
  have P1 := P0.below' hb
  have C1 := P1.cell
  have W1 := B1.trans (hb.mono B1.size)
  have W2 := W1.alloc W1.size (.cells #[.string (kindWord 3), .int .i64 (kindMany 3), .func (.func 81) #[] #[]] 76)
  have H2 := Lib.hid (H.out.below W2)
  have HW := Lib.hid W2
  clear B1 C0 P0 W1 W2 hb
  dsimp only
  go_wp2_with fail
  refine (dd193 _ b g ws H2.out ⟨3, at_, a, c, by_⟩ rfl).mono ?_
  rintro e w2 ⟨rfl, hC, hM⟩
  go_wp2_with fail
  go_ret
  exact ⟨rfl, hC, (Mod.of_below HW.out).trans' hM⟩
theorem deed_4 (w : World) (b g : Nat) (ws : List Int) (h : CellsAt w b g ws) (at_ a c by_ : Int) : Calls Tryd.prog 47 #[.pointer (some ⟨b, 0, none⟩), .agg #[.int .i64 4, .int .i64 at_, .int .u64 a, .int .u64 c, .int .u64 by_]] w (DoneAt w b g ws ⟨4, at_, a, c, by_⟩) := by
  have P0 := Blk.new w [.int .i64 4, .int .i64 at_, .int .u64 a, .int .u64 c, .int .u64 by_] 48
  have C0 := P0.cell
  have B1 : Below w.heap.size w (w.alloc (.cells #[.int .i64 4, .int .i64 at_, .int .u64 a, .int .u64 c, .int .u64 by_] 48)) := (Below.refl _ _).alloc (Nat.le_refl _) _
  have H := Lib.hid h
  clear h
  go_enter Tryd.func47, Tryd.ntmps47
  go_wp2_with fail
  refine (of_4 _).mono ?_
  rintro e w1 ⟨rfl, hb⟩
  have P1 := P0.below' hb
  have C1 := P1.cell
  have W1 := B1.trans (hb.mono B1.size)
  have W2 := W1.alloc W1.size (.cells #[.string (kindWord 4), .int .i64 (kindMany 4), .func (.func 83) #[] #[]] 76)
  have H2 := Lib.hid (H.out.below W2)
  have HW := Lib.hid W2
  clear B1 C0 P0 W1 W2 hb
  dsimp only
  go_wp2_with fail
  refine (dd194 _ b g ws H2.out ⟨4, at_, a, c, by_⟩ rfl).mono ?_
  rintro e w2 ⟨rfl, hC, hM⟩
  go_wp2_with fail
  go_ret
  exact ⟨rfl, hC, (Mod.of_below HW.out).trans' hM⟩
theorem deed_do (w : World) (b g : Nat) (ws : List Int) (h : CellsAt w b g ws) (d : D) : Calls Tryd.prog 47 #[.pointer (some ⟨b, 0, none⟩), d.val] w (DoneAt w b g ws d) := by
  by_cases hk : 1 ≤ d.k ∧ d.k ≤ 4
  · obtain ⟨k, at_, a, c, by_⟩ := d
    simp only at hk
    have hk : k = 1 ∨ k = 2 ∨ k = 3 ∨ k = 4 := by omega
    rcases hk with rfl | rfl | rfl | rfl
    · exact deed_1 w b g ws h at_ a c by_
    · exact deed_2 w b g ws h at_ a c by_
    · exact deed_3 w b g ws h at_ a c by_
    · exact deed_4 w b g ws h at_ a c by_
  · exact deed_no w b g ws h d hk
end Go.Proofs.YtippfkokgpdmdaaDoor
