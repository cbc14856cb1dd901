/-
  The law CellsPlays, walked.
-/
import Derived.Test.YtgkobmmannkegaaStructs
namespace Go.Proofs.Ytgkobmmannkegaa
open Go Go.RowKit
set_option linter.unusedVariables false
theorem cells_of_no (a : Option Addr) (n c : Nat) (w : World) (hn : 4096 < n) : Calls Try.prog 91 #[.slice a n c] w fun e w' => e = .returned (.tuple #[.pointer none, .int .i64 2]) ∧ Below w.heap.size w w' := by
  go_enter Try.func91, Try.ntmps91
  go_wp2_with fail
  refine (cells_new_no _ (.inr (by omega)) _).mono ?_
  rintro e w1 ⟨rfl, hb⟩
  go_wp2_with fail
  go_ret2
  exact ⟨rfl, hb⟩
theorem cellsPlays_skip (a : Option Addr) (n c : Nat) (sa : Option Addr) (sn sc : Nat) (h : 5000 < n ∨ 100 < sn) (w : World) : Calls Try.prog 12 #[.slice a n c, .slice sa sn sc] w fun e w' => e = .returned (.bool true) ∧ Below w.heap.size w w' := by
  have HA := Lib.hid cells_awake
  by_cases h0 : 5000 < n
  · clear h
    go_enter Try.func12, Try.ntmps12
    go_wp2_with fail
    refine (HA.out _).mono ?_
    rintro e w1 ⟨rfl, hb⟩
    go_wp2_with fail
    go_ret
    exact ⟨rfl, hb⟩
  · have h1 : decide ((100 : Int) < (sn : Int)) = true := by simp; omega
    clear h
    go_enter Try.func12, Try.ntmps12
    go_wp2_with fail
    refine (HA.out _).mono ?_
    rintro e w1 ⟨rfl, hb⟩
    go_wp2_with fail
    go_ret
    exact ⟨rfl, hb⟩
theorem cellsPlays_no (a : Option Addr) (n c : Nat) (sa : Option Addr) (sn sc : Nat) (h1 : n ≤ 5000) (h2 : sn ≤ 100) (h3 : 4096 < n) (w : World) : Calls Try.prog 12 #[.slice a n c, .slice sa sn sc] w fun e w' => e = .returned (.bool true) ∧ Below w.heap.size w w' := by
  have HA := Lib.hid cells_awake
  have hd : decide ((100 : Int) < (sn : Int)) = false := by simp; omega
  go_enter Try.func12, Try.ntmps12
  go_wp2_with fail
  refine (cells_of_no _ _ _ _ h3).mono ?_
  rintro e w1 ⟨rfl, hb1⟩
  go_wp2_with fail
  refine (HA.out _).mono ?_
  rintro e w2 ⟨rfl, hb⟩
  go_wp2_with fail
  go_ret
  exact ⟨rfl, hb1.trans (hb.mono hb1.size)⟩
/-- The four numbers of an access, in a later world. -/
theorem ops_four {w : World} {hi n c : Nat} {a : Option Addr} (h : NumsR w hi [.i64, .i64, .u64, .u64] 4 (.slice a n c) n) (h0 : 0 < n) :
    ∃ b off, a = some ⟨b, off, none⟩ ∧ b < hi ∧ ∀ i, i < n → ∃ k at_ x y, w.cell? ⟨b, off + i * 4, none⟩ = some (.int .i64 k) ∧ w.cell? ⟨b, off + i * 4 + 1, none⟩ = some (.int .i64 at_) ∧ w.cell? ⟨b, off + i * 4 + 2, none⟩ = some (.int .u64 x) ∧ w.cell? ⟨b, off + i * 4 + 3, none⟩ = some (.int .u64 y) := by
  obtain ⟨_, _, hv, _, hc⟩ := h.ex
  cases hv
  obtain ⟨b, off, rfl, hb, hcs⟩ := hc h0
  refine ⟨b, off, rfl, hb, fun i hi => ?_⟩
  obtain ⟨_, k, e0, c0, _⟩ := hcs i hi 0 (by omega)
  obtain ⟨_, at_, e1, c1, _⟩ := hcs i hi 1 (by omega)
  obtain ⟨_, x, e2, c2, _⟩ := hcs i hi 2 (by omega)
  obtain ⟨_, y, e3, c3, _⟩ := hcs i hi 3 (by omega)
  cases e0; cases e1; cases e2; cases e3
  exact ⟨k, at_, x, y, c0, c1, c2, c3⟩
theorem U64s.modA {w w' : World} {hi g : Nat} {va : Option Addr} {n c : Nat} {ws : List Int} (h : U64s w hi (.slice va n c) ws) (hm : Mod (fun k => k = g) w w') (hne : 0 < ws.length → ∀ b off, va = some ⟨b, off, none⟩ → b ≠ g) : U64s w' hi (.slice va n c) ws := by
  obtain ⟨a, cap, hv, hc⟩ := h.ex
  refine ⟨a, cap, hv, fun h0 => ?_⟩
  obtain ⟨b, off, ha, hb, hcs⟩ := hc h0
  cases hv
  refine ⟨b, off, ha, hb, fun j hj => ?_⟩
  rw [← hcs j hj]
  exact hm.cell (a := ⟨b, off + j, none⟩) (World.block_lt_of_cell? w _ (hcs j hj)) (hne h0 b off ha)
set_option maxHeartbeats 4000000 in
set_option maxRecDepth 100000 in
theorem cellsPlays_walk (v sv : Value) (ws : List Int) (sn : Nat) (w : World) (hU : U64s w w.heap.size v ws) (hS : NumsR w w.heap.size [.i64, .i64, .u64, .u64] 4 sv sn) (hn : ws.length ≤ 4096) (hsn : sn ≤ 100) :
    Calls Try.prog 12 #[v, sv] w fun e w' => e = .returned (.bool true) ∧ Below w.heap.size w w' := by
  have hx := hU
  obtain ⟨av, c, rfl, _⟩ := hx.ex
  have hy := hS
  obtain ⟨sa, sc, rfl, _⟩ := hy.ex
  have U0 := Lib.hid hU
  have S0 := Lib.hid hS
  have HA := Lib.hid cells_awake
  have hd : decide ((100 : Int) < (sn : Int)) = false := by simp; omega
  clear hU hx hS hy
  go_enter Try.func12, Try.ntmps12
  go_wp2_with fail
  refine (cells_of _ _ _ _ U0.out hn).mono ?_
  rintro e w1 ⟨b, g, rfl, hC, hb, hg, hb1⟩
  have C1 := Lib.hid hC
  have U1 := Lib.hid ((U0.out.below hb1).mono hb1.size)
  have S1 := Lib.hid (S0.out.below hb1)
  have A1 : Hid (0 < ws.length → ∀ b off, av = some ⟨b, off, none⟩ → b ≠ g) := fun h0 b off h => by
    subst h
    obtain ⟨b', off', e, hlt, _⟩ := u64s_cells U0.out h0
    cases e
    omega
  clear hC U0 S0 hd
  go_wp2_with fail
  go_loopw [7, 8, 9, 10] (fun vv i _ _ wr => ∃ (k : Nat) (va : Option Addr) (vc : Nat) (cur : List Int), i = .int .i64 k ∧ k ≤ sn ∧ vv = .slice va cur.length vc ∧ cur.length ≤ 4096 ∧ Hid (U64s wr wr.heap.size (.slice va cur.length vc) cur) ∧ Hid (0 < cur.length → ∀ b off, va = some ⟨b, off, none⟩ → b ≠ g) ∧ Hid (CellsAt wr b g cur) ∧ Hid (NumsR wr w.heap.size [.i64, .i64, .u64, .u64] 4 (.slice sa sn sc) sn) ∧ Below w.heap.size w wr) (fun _ i _ _ _ => sn - (intOf i).toNat)
  case atStart => exact ⟨0, av, c, ws, rfl, by omega, rfl, hn, U1, A1, C1, S1, hb1⟩
  case round =>
    obtain ⟨k, va, vc, cur, rfl, hk, rfl, hl, hU, hA, hC, hS, hW⟩ := hrel
    clear U1 C1 S1 hb1
    by_cases hlt : k < sn
    · obtain ⟨bo, off, rfl, hbo, hcs⟩ := ops_four hS.out (by omega)
      obtain ⟨ok, oat, oa, ob, c0, c1, c2, c3⟩ := hcs k hlt
      have hlo := World.block_lt_of_cell? wr _ c0
      clear hcs
      go_wp2_with fail
      refine (rdo_calls wr wr.heap.size _ _ cur hU.out (Nat.le_refl _) (by omega) ok oat oa ob).mono ?_
      rintro e w2 ⟨va2, vc2, rfl, hU2, hb2, hne⟩
      have A2 : Hid (0 < (opDo cur ok oat oa ob).length → ∀ b off, va2 = some ⟨b, off, none⟩ → b ≠ g) := fun h0 b off h => by
        rw [opDo_length] at h0
        have := hC.out.lt
        rcases hne with rfl | hne
        · exact hA.out h0 b off h
        · have := hne b off h; omega
      clear hne
      have dl := opDo_length cur ok oat oa ob
      have U2 := Lib.hid hU2
      have C2 := Lib.hid (hC.out.below hb2)
      have S2 := Lib.hid (hS.out.below hb2)
      have W2 := hW.trans (hb2.mono hW.size)
      have d0 := (hb2.cell (p := ⟨bo, off + k * 4, none⟩) hlo).trans c0
      have d1 := (hb2.cell (p := ⟨bo, off + k * 4 + 1, none⟩) hlo).trans c1
      have d2 := (hb2.cell (p := ⟨bo, off + k * 4 + 2, none⟩) hlo).trans c2
      have d3 := (hb2.cell (p := ⟨bo, off + k * 4 + 3, none⟩) hlo).trans c3
      have DL := Lib.hid dl
      clear c0 c1 c2 c3 hU2 hb2 hU hC hS dl
      go_wp2_with fail
      refine (do_calls _ _ _ _ C2.out ok oat oa ob).mono ?_
      rintro e w3 ⟨rfl, hC3, hM3⟩
      have C3 : Hid (CellsAt w3 b g (opDo cur ok oat oa ob)) := hC3
      have U3 := Lib.hid ((U64s.modA U2.out hM3 A2.out).mono hM3.size)
      have S3 := Lib.hid (S2.out.mod hM3 (fun k hk e => by omega))
      have W3 := below_mod W2 hM3 W2.size (fun k hk e => by omega)
      clear hC3 hM3 d0 d1 d2 d3
      go_wp2_with fail
      go_roundw
      case rel => exact ⟨k + 1, va2, vc2, opDo cur ok oat oa ob, by go_num, by omega, rfl, by rw [DL.out]; exact hl, U3, A2, C3, S3, W3⟩
      case measure => simp [intOf]; omega
    · have hge : k = sn := by omega
      go_wp2_with fail
      refine (cells_words _ _ _ _ hC.out).mono ?_
      rintro e w2 ⟨va2, vc2, g2, rfl, hR, hg2, hl2, hb2⟩
      have U2 := Lib.hid (hR.reads (hi := w2.heap.size) (fun h => hl2 h))
      have V2 := Lib.hid (hU.out.below hb2)
      have C2 := Lib.hid (hC.out.below hb2)
      have W2 := hW.trans (hb2.mono hW.size)
      clear hR hb2 hU hC hS
      go_wp2_with fail
      refine (same64_true _ _ _ _ _ cur U2.out V2.out (by omega)).mono ?_
      rintro e w3 ⟨rfl, hb3⟩
      have C3 := Lib.hid (C2.out.below hb3)
      have W3 := W2.trans (hb3.mono W2.size)
      clear hb3
      go_wp2_with fail
      refine (cells_len _ _ _ _ C3.out).mono ?_
      rintro e w4 ⟨rfl, rfl⟩
      go_wp2_with fail
      refine (HA.out _).mono ?_
      rintro e w4 ⟨rfl, hb4⟩
      go_wp2_with fail
      go_ret
      exact ⟨rfl, W3.trans (hb4.mono W3.size)⟩
end Go.Proofs.Ytgkobmmannkegaa
