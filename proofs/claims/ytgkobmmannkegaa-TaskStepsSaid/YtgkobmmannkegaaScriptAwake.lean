/-
  Chapter 11's fixed course; a list of deeds as it is handed in.
-/
import Derived.Test.YtgkobmmannkegaaScriptTell
namespace Go.Proofs.Ytgkobmmannkegaa
open Go Go.RowKit
set_option linter.unusedVariables false

def l3 : List D := [⟨4, 0, 1, 0, 0⟩, ⟨4, 0, 1, 0, 0⟩, ⟨1, 0, 0, 0, 0⟩]
def cv (k : Nat) : Int := if k = 0 then 5 else if k = 1 then 6 else 7
theorem l3_step (k : Nat) (h : k < 3) : ∃ d : D, l3.drop k = d :: l3.drop (k + 1) ∧ d.at_ = 0 ∧ ([5, 6, 7] : List Int).take (k + 1) = ([5, 6, 7] : List Int).take k ++ [cv k] ∧ (cv k + d.a) % 18446744073709551616 = cv (k + 1) := by
  have h3 : k = 0 ∨ k = 1 ∨ k = 2 := by omega
  rcases h3 with rfl | rfl | rfl
  · exact ⟨⟨4, 0, 1, 0, 0⟩, rfl, rfl, rfl, by decide⟩
  · exact ⟨⟨4, 0, 1, 0, 0⟩, rfl, rfl, rfl, by decide⟩
  · exact ⟨⟨1, 0, 0, 0, 0⟩, rfl, rfl, rfl, by decide⟩
theorem blk_deeds {w : World} {b : Nat} {ds : List D} (h : Blk w b (dcells ds) 31) : DeedsB w b (.slice (some ⟨b, 0, none⟩) ds.length ds.length) ds :=
  ⟨_, _, rfl, Nat.le_refl _, fun hn => ⟨0, rfl, fun j hj i hi => by rw [Nat.zero_add, h.cell, dcells_get ds j hj i hi]⟩⟩
set_option maxHeartbeats 2000000 in
set_option maxRecDepth 100000 in
theorem script_awake : Gives 84 #[] (.bool true) := by
  intro w
  have HU := Lib.hid (blk_u64s (ws := [5]) (Blk.new w [.int .u64 5] 22))
  go_enter Try.func84, Try.ntmps84
  go_wp2_with fail
  refine (cells_of _ _ _ _ HU.out (by simp)).mono ?_
  rintro e w1 ⟨cb, cg, rfl, hC, hcb, hcg, hb1⟩
  rw [World.size_alloc] at hcb hcg
  have W1 := Below.step _ hb1
  have C1 := Lib.hid hC
  clear hC hb1 HU
  have hb2 : Below w1.heap.size w1 ((w1.alloc (.cells #[.int .i64 4, .int .i64 0, .int .u64 1, .int .u64 0, .int .u64 0] 31)).alloc (.cells (dcells l3).toArray 31)) := ((Below.refl _ _).alloc (Nat.le_refl _) _).alloc (by simp) _
  have C2 := Lib.hid (C1.out.below hb2)
  have W2 := W1.trans (hb2.mono W1.size)
  have D2 := Lib.hid (blk_deeds (ds := l3) (Blk.new2 w1 (.cells #[.int .i64 4, .int .i64 0, .int .u64 1, .int .u64 0, .int .u64 0] 31) (dcells l3) 31))
  clear C1 W1 hb2
  go_wp2_with fail
  refine (new_script _ _ l3 _ D2.out (by simp [l3])).mono ?_
  rintro e w3 ⟨sb, sg, rfl, hS, hsb, hsg, hb3⟩
  have C3 := Lib.hid (C2.out.below hb3)
  have W3 := W2.trans (hb3.mono W2.size)
  have S3 := Lib.hid hS
  have z2 := W2.size
  have lc := C2.out.lt
  clear hS hb3 C2 W2 D2
  go_wp2_with fail
  go_loopw [5] (fun i wr => ∃ (k : Nat) (r : Nat), i = .int .i64 k ∧ k ≤ 3 ∧ w.heap.size ≤ r ∧ cb < r ∧ cg < r ∧ Hid (ScriptAt wr sb sg r (l3.drop k) (([5, 6, 7] : List Int).take k)) ∧ Hid (CellsAt wr cb cg [cv k]) ∧ Below w.heap.size w wr ∧ w3.heap.size ≤ wr.heap.size) (fun i _ => 3 - (intOf i).toNat)
  case atStart => exact ⟨0, sb, rfl, by omega, by omega, by omega, by omega, S3, C3, W3, Nat.le_refl _⟩
  case round =>
    obtain ⟨k, r, rfl, hk, hr0, hr1, hr2, hS, hC, hW, hz⟩ := hrel
    clear S3 C3 W3
    have ls := hS.out.lt
    by_cases hlt : k < 3
    · obtain ⟨d, e1, e2, e3, e4⟩ := l3_step k hlt
      have hS1 := hS.out
      rw [e1] at hS1
      have S1 := Lib.hid hS1
      have E3 := Lib.hid e3
      have G1 : Hid (wget [cv k] d.at_ = cv k) := by show _ = _; rw [e2]; rfl
      have G2 : Hid (wset [cv k] d.at_ ((cv k + d.a) % 18446744073709551616) = [cv (k + 1)]) := by show _ = _; rw [e2, e4]; rfl
      have hgr := hS1.apart
      have hg0 := hS1.lt.2.2 (by simp)
      clear e1 e2 e3 e4 hS hS1
      go_wp2_with fail
      refine (script_nextY _ _ _ _ _ _ _ S1.out).mono ?_
      rintro e w4 ⟨rfl, hb4⟩
      have hb5 := hb4.alloc hb4.size (.cells #[.int .i64 d.k, .int .i64 d.at_, .int .u64 d.a, .int .u64 d.b, .int .u64 d.by_] 31)
      have S5 := Lib.hid (S1.out.below hb5)
      have C5 := Lib.hid (hC.out.below hb5)
      have W5 := hW.trans (hb5.mono hW.size)
      have z5 := hb5.size
      clear hb4 hb5 S1 hC
      go_wp2_with fail
      refine (cells_add _ _ _ _ C5.out _ _).mono ?_
      unfold Turned
      rw [G1.out, G2.out]
      rintro e w6 ⟨rfl, hC6, hM6⟩
      have C6 := Lib.hid hC6
      have S6 := Lib.hid (S5.out.mod hM6 (by omega) (by omega) (by omega))
      have W6 := below_mod W5 hM6 W5.size (fun q hq e => by omega)
      have z6 := hM6.size
      clear hC6 hM6 S5 C5 W5
      go_wp2_with fail
      refine (script_tellY _ _ _ _ _ _ _ _ S6.out (by simp; omega)).mono ?_
      rintro e w7 ⟨rfl, r', hS7, hr', hM7⟩
      rw [← E3.out] at hS7
      have S7 := Lib.hid hS7
      have C7 := Lib.hid (C6.out.mod hM7 (by omega) (by omega))
      have W7 := below_mod W6 hM7 W6.size (fun q hq e => by omega)
      have z7 := hM7.size
      clear hS7 hM7 S6 C6 W6
      go_wp2_with fail
      go_roundw
      case rel => exact ⟨k + 1, r', by go_num, by omega, by omega, by omega, by omega, S7, C7, W7, by omega⟩
      case measure => simp [intOf]; omega
    · have hk3 : k = 3 := by omega
      subst hk3
      have hS1 : ScriptAt wr sb sg r [] [5, 6, 7] := hS.out
      have S1 := Lib.hid hS1
      clear hS hS1
      go_wp2_with fail
      refine (script_nextN _ _ _ _ _ S1.out).mono ?_
      rintro e w4 ⟨rfl, hb4⟩
      have hb5 := hb4.alloc hb4.size (.cells #[.int .i64 0, .int .i64 0, .int .u64 0, .int .u64 0, .int .u64 0] 31)
      have S5 := Lib.hid (S1.out.below hb5)
      have W5 := hW.trans (hb5.mono hW.size)
      clear hb4 hb5 S1
      go_wp2_with fail
      refine (script_found _ _ _ _ _ _ S5.out (by simp)).mono ?_
      rintro e w6 ⟨va, vc, g6, rfl, hR, hg6, hl6, hb6⟩
      have U6 := Lib.hid ((hR.reads (hi := w6.heap.size) (fun h => hl6 h)).below (w' := w6.alloc (.cells #[.int .u64 5, .int .u64 6, .int .u64 7] 22)) ((Below.refl _ _).alloc (Nat.le_refl _) _))
      have V6 := Lib.hid (blk_u64s (ws := [5, 6, 7]) (Blk.new w6 [.int .u64 5, .int .u64 6, .int .u64 7] 22))
      have W6 := W5.trans (hb6.mono W5.size)
      clear hR hb6
      go_wp2_with fail
      refine (same64_true _ _ _ _ _ [5, 6, 7] U6.out V6.out (by simp)).mono ?_
      rintro e w7 ⟨rfl, hb7⟩
      go_wp2_with fail
      go_ret
      exact ⟨rfl, W6.trans ((Below.step _ hb7).mono W6.size)⟩
end Go.Proofs.Ytgkobmmannkegaa
