/-
  The law DeedDoes, walked.
-/
import Derived.Test.YtippfkokgpdmdaaDoorDeedRef
import Derived.Test.YtippfkokgpdmdaaDoorDeedAwake
namespace Go.Proofs.YtippfkokgpdmdaaDoor
open Go Go.RowKit
set_option linter.unusedVariables false

theorem deed_nil (w : World) : Calls Tryd.prog 47 #[.pointer none, .agg #[.int .i64 1, .int .i64 0, .int .u64 0, .int .u64 0, .int .u64 0]] w fun e w' => e = .returned (.int .u64 0) ∧ Below w.heap.size w w' := by
  have P0 := Blk.new w [.int .i64 1, .int .i64 0, .int .u64 0, .int .u64 0, .int .u64 0] 48
  have C0 := P0.cell
  have B1 : Below w.heap.size w (w.alloc (.cells #[.int .i64 1, .int .i64 0, .int .u64 0, .int .u64 0, .int .u64 0] 48)) := (Below.refl _ _).alloc (Nat.le_refl _) _
  have L : Hid (∀ w, Calls Tryd.prog 77 #[.pointer none, .agg #[.int .i64 1, .int .i64 0, .int .u64 0, .int .u64 0, .int .u64 0]] w fun e w' => e = .returned (.int .u64 0) ∧ Below w.heap.size w w') := by
    intro w
    have P0 := Blk.new w [.int .i64 1, .int .i64 0, .int .u64 0, .int .u64 0, .int .u64 0] 48
    have C0 := P0.cell
    go_enter Tryd.func77, Tryd.ntmps77
    go_wp2_with fail
    refine (cells_load_nil _ _).mono ?_
    rintro e w1 ⟨rfl, rfl⟩
    go_wp2_with fail
    go_ret
    exact ⟨rfl, (Below.refl _ _).alloc (Nat.le_refl _) _⟩
  go_enter Tryd.func47, Tryd.ntmps47
  go_wp2_with fail
  refine (of_1 _).mono ?_
  rintro e w1 ⟨rfl, hb⟩
  have P1 := P0.below' hb
  have C1 := P1.cell
  have W1 := B1.trans (hb.mono B1.size)
  have W2 := W1.alloc W1.size (.cells #[.string (kindWord 1), .int .i64 (kindMany 1), .func (.func 77) #[] #[]] 76)
  clear B1 C0 P0 W1 hb
  dsimp only
  go_wp2_with fail
  refine (L.out _).mono ?_
  rintro e w2 ⟨rfl, hb2⟩
  go_wp2_with fail
  go_ret
  exact ⟨rfl, W2.trans (hb2.mono W2.size)⟩
theorem deedDoes_skip (a : Option Addr) (n c : Nat) (sa : Option Addr) (sn sc : Nat) (h : 500 < n ∨ 100 < sn) (w : World) : Calls Tryd.prog 10 #[.slice a n c, .slice sa sn sc] w fun e w' => e = .returned (.bool true) ∧ Below w.heap.size w w' := by
  have HA := Lib.hid (fun w => deed_awake w)
  by_cases h0 : 500 < n
  · clear h
    go_enter Tryd.func10, Tryd.ntmps10
    go_wp2_with fail
    refine (HA.out _).mono ?_
    rintro e w1 ⟨rfl, hb⟩
    go_wp2_with fail
    go_ret
    exact ⟨rfl, hb⟩
  · have h1 : decide ((100 : Int) < (sn : Int)) = true := by simp; omega
    clear h
    go_enter Tryd.func10, Tryd.ntmps10
    go_wp2_with fail
    refine (HA.out _).mono ?_
    rintro e w1 ⟨rfl, hb⟩
    go_wp2_with fail
    go_ret
    exact ⟨rfl, hb⟩
set_option maxHeartbeats 4000000 in
set_option maxRecDepth 100000 in
theorem deedDoes_walk (a : Option Addr) (L c : Nat) (ws : List Int) (hL : ws.length = L) (sa : Option Addr) (S sc gd : Nat) (ds : List D) (hSn : ds.length = S) (w : World) (hI : U64s w w.heap.size (.slice a L c) ws) (hD : DeedsB w gd (.slice sa S sc) ds) (n1 : L ≤ 500) (n2 : S ≤ 100) :
    Calls Tryd.prog 10 #[.slice a L c, .slice sa S sc] w fun e w' => e = .returned (.bool true) ∧ Below w.heap.size w w' := by
  have HI := Lib.hid hI
  have HD := Lib.hid hD
  have HA := Lib.hid (fun w => deed_awake w)
  have HL := Lib.hid hL
  have HS := Lib.hid hSn
  have m1 : decide ((500 : Int) < (L : Int)) = false := by simp; omega
  have m2 : decide ((100 : Int) < (S : Int)) = false := by simp; omega
  clear hI hD hL hSn
  go_enter Tryd.func10, Tryd.ntmps10
  go_wp2_with fail
  refine (cells_of _ _ _ _ HI.out (by rw [HL.out]; omega)).mono ?_
  rintro e w1 ⟨b, g, rfl, hC, hb, hg, hb1⟩
  have C1 := Lib.hid hC
  have U1 := Lib.hid ((HI.out.below hb1).mono hb1.size)
  have A1 : Hid (0 < L → ∀ b off, a = some ⟨b, off, none⟩ → b ≠ g) := fun h0 bb off h => by
    have := HI.out.blk_lt (by rw [HL.out]; exact h0) bb off h
    omega
  have W1 := hb1
  clear hC hb1 m1 m2
  go_wp2_with fail
  go_loopw [7, 8, 9, 10] (fun vv i _ _ wr => ∃ (k : Nat) (va : Option Addr) (vc : Nat) (cur : List Int), i = .int .i64 k ∧ k ≤ S ∧ vv = .slice va L vc ∧ Hid (cur.length = L) ∧ Hid (U64s wr wr.heap.size (.slice va L vc) cur) ∧ Hid (0 < L → ∀ b off, va = some ⟨b, off, none⟩ → b ≠ g) ∧ Hid (CellsAt wr b g cur) ∧ Below w.heap.size w wr) (fun _ i _ _ _ => S - (intOf i).toNat)
  case atStart => exact ⟨0, a, c, ws, rfl, by omega, rfl, HL, U1, A1, C1, W1⟩
  case round =>
    obtain ⟨k, va, vc, cur, rfl, hk, rfl, hl, hU, hA, hC, hW⟩ := hrel
    clear U1 C1 W1
    by_cases hlt : k < S
    · have hkd : k < ds.length := by rw [HS.out]; exact hlt
      obtain ⟨a', c', hv, _, hcs⟩ := HD.out.ex
      rw [HS.out] at hv
      cases hv
      obtain ⟨off, e5, hcs2⟩ := hcs (by omega)
      subst e5
      have gl : gd < w.heap.size := HD.out.lt (by omega)
      have f0 : w.cell? ⟨gd, off + k * 5, none⟩ = some (.int .i64 ds[k].k) := hcs2 k hkd 0 (by omega)
      have f1 : w.cell? ⟨gd, off + k * 5 + 1, none⟩ = some (.int .i64 ds[k].at_) := hcs2 k hkd 1 (by omega)
      have f2 : w.cell? ⟨gd, off + k * 5 + 2, none⟩ = some (.int .u64 ds[k].a) := hcs2 k hkd 2 (by omega)
      have f3 : w.cell? ⟨gd, off + k * 5 + 3, none⟩ = some (.int .u64 ds[k].b) := hcs2 k hkd 3 (by omega)
      have f4 : w.cell? ⟨gd, off + k * 5 + 4, none⟩ = some (.int .u64 ds[k].by_) := hcs2 k hkd 4 (by omega)
      generalize ds[k] = d at *
      have FF : Hid (∀ wx, Below w.heap.size w wx → wx.cell? ⟨gd, off + k * 5, none⟩ = some (.int .i64 d.k) ∧ wx.cell? ⟨gd, off + k * 5 + 1, none⟩ = some (.int .i64 d.at_) ∧ wx.cell? ⟨gd, off + k * 5 + 2, none⟩ = some (.int .u64 d.a) ∧ wx.cell? ⟨gd, off + k * 5 + 3, none⟩ = some (.int .u64 d.b) ∧ wx.cell? ⟨gd, off + k * 5 + 4, none⟩ = some (.int .u64 d.by_)) := fun wx h =>
        ⟨(h.cell (p := ⟨gd, off + k * 5, none⟩) gl).trans f0, (h.cell (p := ⟨gd, off + k * 5 + 1, none⟩) gl).trans f1, (h.cell (p := ⟨gd, off + k * 5 + 2, none⟩) gl).trans f2, (h.cell (p := ⟨gd, off + k * 5 + 3, none⟩) gl).trans f3, (h.cell (p := ⟨gd, off + k * 5 + 4, none⟩) gl).trans f4⟩
      have bk : (k : Int) < (S : Int) := by omega
      clear f0 f1 f2 f3 f4 hcs hcs2
      obtain ⟨f0, f1, f2, f3, f4⟩ := FF.out wr hW
      go_wp2_with fail
      refine (rdo7_calls wr wr.heap.size va vc L cur hl.out hU.out (Nat.le_refl _) (by omega) d).mono ?_
      rintro e w2 ⟨va2, vc2, rfl, hU2, hb2, hva2⟩
      have U2 := Lib.hid hU2
      have C2 := Lib.hid (hC.out.below hb2)
      have lg := hC.out.lt
      have A2 : Hid (0 < L → ∀ b off, va2 = some ⟨b, off, none⟩ → b ≠ g) := fun h0 bb of' h => by
        rcases hva2 with rfl | h2
        · exact hA.out h0 bb of' h
        · have := h2 bb of' h
          omega
      have W2 := hW.trans (hb2.mono hW.size)
      clear f0 f1 f2 f3 f4 hU hA hC hU2 hb2 hva2 hW
      obtain ⟨f0, f1, f2, f3, f4⟩ := FF.out w2 W2
      go_wp2_with fail
      refine (deed_do _ _ _ _ C2.out d).mono ?_
      rintro e w3 ⟨rfl, hC3, hM3⟩
      have hdl : (dDo cur d).length = L := by rw [dDo_length, hl.out]
      have U3 := Lib.hid ((U2.out.modA hM3 (fun h0 => A2.out (by rw [hdl] at h0; exact h0))).mono hM3.size)
      have C3 := Lib.hid hC3
      have W3 := below_mod W2 hM3 W2.size (fun q hq e => by omega)
      have HDL := Lib.hid hdl
      clear f0 f1 f2 f3 f4 U2 C2 W2 hC3 hM3 hdl
      go_wp2_with fail
      go_roundw
      case rel => exact ⟨k + 1, va2, vc2, dDo cur d, by go_num, by omega, rfl, HDL, U3, A2, C3, W3⟩
      case measure => simp [intOf]; omega
    · have hx : k = S := by omega
      subst hx
      go_wp2_with fail
      refine (cells_words _ _ _ _ hC.out).mono ?_
      rintro e w2 ⟨xa, xc, g2, rfl, hR, _, hl2, hb2⟩
      have R2 := Lib.hid (hR.reads (hi := w2.heap.size) (fun h => hl2 h))
      have U2 := Lib.hid (hU.out.below hb2)
      have W2 := Lib.hid (hW.trans (hb2.mono hW.size))
      have HN : Hid (cur.length ≤ 65000) := by
        show _ ≤ _
        rw [hl.out]
        omega
      have EL := Lib.hid hl.out
      clear hR hU hC hW hb2
      go_wp2_with fail
      refine (same64_true _ _ _ _ _ cur R2.out U2.out HN.out).mono ?_
      rintro e w3 ⟨rfl, hb3⟩
      have W3 := Lib.hid (W2.out.trans (hb3.mono W2.out.size))
      clear R2 U2 W2 hb3
      go_wp2_with fail
      refine (deed_nil _).mono ?_
      rintro e w4 ⟨rfl, hb4⟩
      have W4 := Lib.hid (W3.out.trans (hb4.mono W3.out.size))
      clear W3 hb4
      go_wp2_with fail
      refine (HA.out _).mono ?_
      rintro e w5 ⟨rfl, hb5⟩
      go_wp2_with fail
      go_ret
      exact ⟨rfl, W4.out.trans (hb5.mono W4.out.size)⟩
end Go.Proofs.YtippfkokgpdmdaaDoor
