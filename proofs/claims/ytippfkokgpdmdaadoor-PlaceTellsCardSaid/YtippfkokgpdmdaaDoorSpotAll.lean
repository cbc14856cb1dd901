/-
  All spots of a plan by the document (sundialref09.All), walked.
-/
import Derived.Test.YtippfkokgpdmdaaDoorRecs
import Derived.Test.YtippfkokgpdmdaaDoorSpotEq
import Derived.Test.YtippfkokgpdmdaaDoorPlaceFacts
namespace Go.Proofs.YtippfkokgpdmdaaDoor
open Go Go.RowKit
set_option linter.unusedVariables false

def spotR : Rec Spot := { cells := fun x => [.int .i64 x.1, .int .i64 x.2.1, .int .i64 x.2.2], size := 3, len := fun _ => rfl, one := fun a u hu => by simp at hu; rcases hu with rfl | rfl | rfl <;> rfl, pos := by decide }
theorem info36 : (Tryd.prog.info? 36).map (fun i => (i.zero, i.size, i.bytes)) = some (some (.agg #[.int .i64 0, .int .i64 0, .int .i64 0]), 3, 24) := by kernel_rfl
/-- The first n spots, in a row of the call's own. -/
def SL (w : World) (lo : Nat) (v : Value) (T L n : Nat) : Prop := w.ownsRow lo 36 3 v n (rcells spotR ((List.range n).map (spotAt T L)))
theorem SL.next {w : World} {lo : Nat} {v : Value} {T L n : Nat} {x : Spot} (h : w.ownsRow lo 36 3 v (n + 1) (rcells spotR ((List.range n).map (spotAt T L)) ++ [.int .i64 x.1, .int .i64 x.2.1, .int .i64 x.2.2])) (e : spotAt T L n = x) : SL w lo v T L (n + 1) := by
  unfold SL
  rw [List.range_succ, List.map_append, List.map_singleton, rcells_append, rcells_one, e]
  exact h
theorem SL.below {w w' : World} {lo : Nat} {v : Value} {T L n : Nat} (h : SL w lo v T L n) (hb : Below w.heap.size w w') : SL w' lo v T L n := by
  have hm : Mod (fun _ => False) w w' := Mod.of_below hb
  refine ⟨h.1, ?_⟩
  rcases h.2 with hn | ⟨q, cap, cur, rfl, h0, hh, rest⟩
  · exact .inl hn
  · exact .inr ⟨q, cap, cur, rfl, h0, by rw [hm.block q (Array.getElem?_eq_some_iff.1 hh).1 id]; exact hh, rest⟩
theorem SL.start (w : World) (lo T L : Nat) (h : lo ≤ w.heap.size) : SL (w.alloc (.cells #[.int .i64 1, .int .i64 0, .int .i64 0, .int .i64 2, .int .i64 0, .int .i64 0, .int .i64 3, .int .i64 0, .int .i64 0, .int .i64 4, .int .i64 0, .int .i64 0] 36)) lo (.slice (some ⟨w.heap.size, 0, none⟩) 4 4) T L 4 := by
  have := World.ownsRow_lit (e := 36) (size := 3) w #[.int .i64 1, .int .i64 0, .int .i64 0, .int .i64 2, .int .i64 0, .int .i64 0, .int .i64 3, .int .i64 0, .int .i64 0, .int .i64 4, .int .i64 0, .int .i64 0] 4 h (by unfold maxLen; omega) rfl
  unfold SL
  rw [show List.range 4 = [0, 1, 2, 3] from rfl]
  simp only [List.map_cons, List.map_nil, spot_low (show (0 : Nat) < 4 by omega), spot_low (show (1 : Nat) < 4 by omega), spot_low (show (2 : Nat) < 4 by omega), spot_low (show (3 : Nat) < 4 by omega)]
  exact this
section
variable (T S L : Nat) (G : Int) (hT : 1 ≤ T ∧ T ≤ 8) (hS : 1 ≤ S ∧ S ≤ 64) (hL : 1 ≤ L ∧ L ≤ 8)
include hT hS hL
set_option maxHeartbeats 8000000 in
set_option maxRecDepth 100000 in
theorem all_yes (hp : PRight T S L G) (w : World) : Calls Tryd.prog 58 #[planV T S L G] w fun e w' =>
    ∃ va vc, e = .returned (.slice va (lenP T S L) vc) ∧ SL w' (w.heap.size + 1) (.slice va (lenP T S L) vc) T L (lenP T S L) ∧ Below w.heap.size w w' := by
  have R := Lib.hid (rright_yes _ _ _ _ hp)
  have HB := Lib.hid (fun i (h : i ≤ S) => show i * (6 + L) ≤ 64 * 14 from Nat.mul_le_mul (Nat.le_trans h hS.2) (by omega))
  have D0 := Blk.new w [.int .i64 T, .int .i64 S, .int .i64 L, .int .u64 G] 34
  have C0 := D0.cell
  have W0 : Below w.heap.size w (w.alloc (.cells #[.int .i64 T, .int .i64 S, .int .i64 L, .int .u64 G] 34)) := (Below.refl _ _).alloc (Nat.le_refl _) _
  clear hp
  go_enter Tryd.func58, Tryd.ntmps58
  go_wp2_with fail
  refine (R.out _).mono ?_
  rintro e w1 ⟨rfl, hb1⟩
  have W1 := W0.trans (hb1.mono W0.size)
  have D1 := D0.below' hb1
  have C1 := D1.cell
  have l1 := D1.lt
  have S2 := Lib.hid (SL.start w1 (w.heap.size + 1) T L l1)
  have D2 := D1.alloc (.cells #[.int .i64 1, .int .i64 0, .int .i64 0, .int .i64 2, .int .i64 0, .int .i64 0, .int .i64 3, .int .i64 0, .int .i64 0, .int .i64 4, .int .i64 0, .int .i64 0] 36)
  have W2 := W1.alloc W1.size (.cells #[.int .i64 1, .int .i64 0, .int .i64 0, .int .i64 2, .int .i64 0, .int .i64 0, .int .i64 3, .int .i64 0, .int .i64 0, .int .i64 4, .int .i64 0, .int .i64 0] 36)
  clear D0 C0 W0 hb1 W1 D1 C1
  go_wp2_with fail
  go_loopw [3, 4] (fun v kv wr => ∃ (k : Nat), kv = .int .i64 k ∧ 5 ≤ k ∧ k ≤ 8 ∧ Hid (SL wr (w.heap.size + 1) v T L (4 + (k - 5) * T)) ∧ Blk wr w.heap.size [.int .i64 T, .int .i64 S, .int .i64 L, .int .u64 G] 34 ∧ Below w.heap.size w wr) (fun _ i _ => 8 - (intOf i).toNat)
  case atStart => exact ⟨5, rfl, by omega, by omega, by simpa using S2, D2, W2⟩
  case round =>
    obtain ⟨k, rfl, hk5, hk8, hA, D3, W3⟩ := hrel
    have C3 := D3.cell
    by_cases hlt : k ≤ 7
    · have d7 : decide ((k : Int) ≤ 7) = true := decide_eq_true (by omega)
      clear S2 D2 W2
      go_wp2_with fail
      go_loopw [3, 5] (fun v tv wr => ∃ (t : Nat), tv = .int .i64 t ∧ t ≤ T ∧ Hid (SL wr (w.heap.size + 1) v T L (4 + ((k - 5) * T + t))) ∧ Blk wr w.heap.size [.int .i64 T, .int .i64 S, .int .i64 L, .int .u64 G] 34 ∧ Below w.heap.size w wr) (fun _ i _ => T - (intOf i).toNat)
      case atStart => exact ⟨0, rfl, by omega, by simpa using hA, D3, W3⟩
      case round =>
        obtain ⟨t, rfl, ht, hA4, D4, W4⟩ := hrel
        have C4 := D4.cell
        by_cases htT : t < T
        · clear hA D3 W3 C3
          have HSP : Hid (spotAt T L (4 + ((k - 5) * T + t)) = ((k : Int), (t : Int), 0)) := by
            show _ = _
            rw [spot_thread (by omega) htT]
            simp only [Prod.mk.injEq, and_true]
            omega
          have hn5 : 4 + ((k - 5) * T + t) ≤ 65000 := by
            have : (k - 5) * T ≤ 3 * 8 := Nat.mul_le_mul (by omega) hT.2
            omega
          generalize hn : 4 + ((k - 5) * T + t) = n at *
          have HN := Lib.hid hn
          clear hn
          obtain ⟨va, vc, rfl⟩ := owns_shape hA4.out
          have z1 := W4.size
          have l3 := D4.lt
          have A2 := Lib.hid (hA4.out.below ((Below.refl _ _).alloc (Nat.le_refl _) (.cells #[.int .i64 k, .int .i64 t, .int .i64 0] 36)))
          go_wp2_with (at_builtin; refine append_one rfl (.tmp 28) (.tmp 32) 70 rfl (w.heap.size + 1) 36 _ 3 24 Tryd.underlying70 info36 rfl (by decide) _ n _ rfl A2.out wr.heap.size 36 [.int .i64 k, .int .i64 t, .int .i64 0] rfl (Blk.new wr [.int .i64 k, .int .i64 t, .int .i64 0] 36) rfl (by intro u hu; simp at hu; rcases hu with rfl | rfl | rfl <;> rfl) ?c1 (by omega) ?c2 ?_)
          case c1 => omega
          case c2 => simp; omega
          intro va5 vc5 w5 hA5 hg5
          have M5 : Mod (fun q => w.heap.size + 1 ≤ q) wr w5 := ((Mod.refl _ _).alloc _).grown hg5 (fun q hq _ => own_ge A2.out q hq)
          have A5 := Lib.hid (SL.next hA5 HSP.out)
          have D5 := M5.blk D4 (by omega)
          have W5 := below_mod W4 M5 (by omega) (fun q hq => by omega)
          clear hA5 hg5 M5 A2 HSP hA4 D4 W4 C4
          go_wp2_with fail
          go_roundw
          case rel =>
            refine ⟨t + 1, by go_num, by omega, ?_, D5, W5⟩
            rw [show 4 + ((k - 5) * T + (t + 1)) = n + 1 by have := HN.out; omega]
            exact A5
          case measure => simp [intOf]; omega
        · obtain rfl : T = t := by omega
          have hA5 : Hid (SL wr (w.heap.size + 1) u3 T L (4 + (k + 1 - 5) * T)) := by
            rw [show 4 + (k + 1 - 5) * T = 4 + ((k - 5) * T + T) by rw [show k + 1 - 5 = (k - 5) + 1 by omega, Nat.add_mul]; omega]
            exact hA4
          clear hA D3 W3 C3 hA4
          go_wp2_with fail
          go_roundw
          case rel => exact ⟨k + 1, by go_num, by omega, by omega, hA5, D4, W4⟩
          case measure => simp [intOf]; omega
    · have hA1 : Hid (SL wr (w.heap.size + 1) u3 T L (4 + 3 * T)) := by
        rw [show 4 + 3 * T = 4 + (k - 5) * T by rw [show k - 5 = 3 by omega]]
        exact hA
      have d7 : decide ((k : Int) ≤ 7) = false := decide_eq_false (by omega)
      obtain ⟨wo, hwo⟩ : ∃ wo : World, wo = wr := ⟨_, rfl⟩
      subst hwo
      clear S2 D2 W2 hA hlt hk5 hk8
      go_wp2_with fail
      go_loopw [3, 6] (fun v hv wr => ∃ (h : Nat), hv = .int .i64 h ∧ h ≤ L ∧ Hid (SL wr (w.heap.size + 1) v T L (4 + 3 * T + h)) ∧ Blk wr w.heap.size [.int .i64 T, .int .i64 S, .int .i64 L, .int .u64 G] 34 ∧ Below w.heap.size w wr) (fun _ i _ => L - (intOf i).toNat)
      case atStart => exact ⟨0, rfl, by omega, by simpa using hA1, D3, W3⟩
      case round =>
        obtain ⟨h, rfl, hh, hA4, D4, W4⟩ := hrel
        have C4 := D4.cell
        by_cases hhL : h < L
        · clear hA1 D3 W3 C3
          have HSP : Hid (spotAt T L (4 + 3 * T + h) = (8, 0, (h : Int))) := spot_head hhL
          have hn5 : 4 + 3 * T + h ≤ 65000 := by omega
          generalize hn : 4 + 3 * T + h = n at *
          have HN := Lib.hid hn
          clear hn
          obtain ⟨va, vc, rfl⟩ := owns_shape hA4.out
          have z1 := W4.size
          have l3 := D4.lt
          have A2 := Lib.hid (hA4.out.below ((Below.refl _ _).alloc (Nat.le_refl _) (.cells #[.int .i64 8, .int .i64 0, .int .i64 h] 36)))
          go_wp2_with (at_builtin; refine append_one rfl (.tmp 40) (.tmp 43) 70 rfl (w.heap.size + 1) 36 _ 3 24 Tryd.underlying70 info36 rfl (by decide) _ n _ rfl A2.out wr.heap.size 36 [.int .i64 8, .int .i64 0, .int .i64 h] rfl (Blk.new wr [.int .i64 8, .int .i64 0, .int .i64 h] 36) rfl (by intro u hu; simp at hu; rcases hu with rfl | rfl | rfl <;> rfl) ?c1 (by omega) ?c2 ?_)
          case c1 => omega
          case c2 => simp; omega
          intro va5 vc5 w5 hA5 hg5
          have M5 : Mod (fun q => w.heap.size + 1 ≤ q) wr w5 := ((Mod.refl _ _).alloc _).grown hg5 (fun q hq _ => own_ge A2.out q hq)
          have A5 := Lib.hid (SL.next hA5 HSP.out)
          have D5 := M5.blk D4 (by omega)
          have W5 := below_mod W4 M5 (by omega) (fun q hq => by omega)
          clear hA5 hg5 M5 A2 HSP hA4 D4 W4 C4
          go_wp2_with fail
          go_roundw
          case rel =>
            refine ⟨h + 1, by go_num, by omega, ?_, D5, W5⟩
            rw [show 4 + 3 * T + (h + 1) = n + 1 by have := HN.out; omega]
            exact A5
          case measure => simp [intOf]; omega
        · obtain rfl : L = h := by omega
          obtain ⟨wp, hwp⟩ : ∃ wp : World, wp = wr := ⟨_, rfl⟩
          subst hwp
          clear hA1 D3 W3 C3 hhL hh
          go_wp2_with fail
          go_loopw [3, 7] (fun v iv wr => ∃ (i : Nat), iv = .int .i64 (i + 1 : Nat) ∧ i ≤ S ∧ Hid (SL wr (w.heap.size + 1) v T L (4 + 3 * T + L + i * (6 + L))) ∧ Blk wr w.heap.size [.int .i64 T, .int .i64 S, .int .i64 L, .int .u64 G] 34 ∧ Below w.heap.size w wr) (fun _ i _ => S + 1 - (intOf i).toNat)
          case atStart => exact ⟨0, rfl, by omega, by simpa using hA4, D4, W4⟩
          case round =>
            obtain ⟨i, rfl, hi, hA5, D5, W5⟩ := hrel
            have C5 := D5.cell
            by_cases hiS : i < S
            · have di : decide (((i + 1 : Nat) : Int) ≤ (S : Int)) = true := decide_eq_true (by omega)
              have HBi := Lib.hid (HB.out i (by omega))
              have HSQ := Lib.hid (fun r (hr : r < 6 + L) => spot_slot (T := T) (i := i) hr)
              have di2 : decide (i + 1 ≤ S) = true := decide_eq_true (by omega)
              generalize hi1 : i + 1 = i1 at *
              obtain ⟨wq, hwq⟩ : ∃ wq : World, wq = wr := ⟨_, rfl⟩
              subst hwq
              clear hA4 D4 W4 C4
              go_wp2_with fail
              go_loopw [3, 8] (fun v kv wr => ∃ (r : Nat), kv = .int .i64 r ∧ 9 ≤ r ∧ r ≤ 15 ∧ Hid (SL wr (w.heap.size + 1) v T L (4 + 3 * T + L + (i * (6 + L) + (r - 9)))) ∧ Blk wr w.heap.size [.int .i64 T, .int .i64 S, .int .i64 L, .int .u64 G] 34 ∧ Below w.heap.size w wr) (fun _ i _ => 15 - (intOf i).toNat)
              case atStart => exact ⟨9, rfl, by omega, by omega, by simpa using hA5, D5, W5⟩
              case round =>
                obtain ⟨r, rfl, hr9, hr, hA6, D6, W6⟩ := hrel
                have C6 := D6.cell
                by_cases hr6 : r ≤ 14
                · have dr : decide ((r : Int) ≤ 14) = true := decide_eq_true (by omega)
                  clear hA5 D5 W5 C5
                  have HSP : Hid (spotAt T L (4 + 3 * T + L + (i * (6 + L) + (r - 9))) = ((r : Int), (i1 : Int), 0)) := by
                    show _ = _
                    rw [HSQ.out _ (by omega), if_pos (by omega)]
                    simp only [Prod.mk.injEq, and_true]
                    omega
                  have hn5 : 4 + 3 * T + L + (i * (6 + L) + (r - 9)) ≤ 65000 := by have := HBi.out; omega
                  generalize hn : 4 + 3 * T + L + (i * (6 + L) + (r - 9)) = n at *
                  have HN := Lib.hid hn
                  clear hn
                  obtain ⟨va, vc, rfl⟩ := owns_shape hA6.out
                  have z1 := W6.size
                  have l3 := D6.lt
                  have A2 := Lib.hid (hA6.out.below ((Below.refl _ _).alloc (Nat.le_refl _) (.cells #[.int .i64 r, .int .i64 i1, .int .i64 0] 36)))
                  go_wp2_with (at_builtin; refine append_one rfl (.tmp 55) (.tmp 59) 70 rfl (w.heap.size + 1) 36 _ 3 24 Tryd.underlying70 info36 rfl (by decide) _ n _ rfl A2.out wr.heap.size 36 [.int .i64 r, .int .i64 i1, .int .i64 0] rfl (Blk.new wr [.int .i64 r, .int .i64 i1, .int .i64 0] 36) rfl (by intro u hu; simp at hu; rcases hu with rfl | rfl | rfl <;> rfl) ?c1 (by omega) ?c2 ?_)
                  case c1 => omega
                  case c2 => simp; omega
                  intro va5 vc5 w5 hA5 hg5
                  have M5 : Mod (fun q => w.heap.size + 1 ≤ q) wr w5 := ((Mod.refl _ _).alloc _).grown hg5 (fun q hq _ => own_ge A2.out q hq)
                  have A5 := Lib.hid (SL.next hA5 HSP.out)
                  have D5 := M5.blk D6 (by omega)
                  have W5 := below_mod W6 M5 (by omega) (fun q hq => by omega)
                  clear hA5 hg5 M5 A2 HSP hA6 D6 W6 C6
                  go_wp2_with fail
                  go_roundw
                  case rel =>
                    refine ⟨r + 1, by go_num, by omega, by omega, ?_, D5, W5⟩
                    rw [show 4 + 3 * T + L + (i * (6 + L) + (r + 1 - 9)) = n + 1 by have := HN.out; omega]
                    exact A5
                  case measure => simp [intOf]; omega
                · have dr : decide ((r : Int) ≤ 14) = false := decide_eq_false (by omega)
                  have hA9 : Hid (SL wr (w.heap.size + 1) u3 T L (4 + 3 * T + L + (i * (6 + L) + 6))) := by
                    have e : r - 9 = 6 := by omega
                    rw [e] at hA6
                    exact hA6
                  obtain ⟨wz, hwz⟩ : ∃ wz : World, wz = wr := ⟨_, rfl⟩
                  subst hwz
                  clear hA5 D5 W5 C5 hr6 hA6
                  go_wp2_with fail
                  go_loopw [3, 9] (fun v hv wr => ∃ (h : Nat), hv = .int .i64 h ∧ h ≤ L ∧ Hid (SL wr (w.heap.size + 1) v T L (4 + 3 * T + L + (i * (6 + L) + (6 + h)))) ∧ Blk wr w.heap.size [.int .i64 T, .int .i64 S, .int .i64 L, .int .u64 G] 34 ∧ Below w.heap.size w wr) (fun _ i _ => L - (intOf i).toNat)
                  case atStart => exact ⟨0, rfl, by omega, by simpa using hA9, D6, W6⟩
                  case round =>
                    obtain ⟨h, rfl, hh, hA7, D7, W7⟩ := hrel
                    have C7 := D7.cell
                    by_cases hhL : h < L
                    · clear hA9 D6 W6 C6
                      have HSP : Hid (spotAt T L (4 + 3 * T + L + (i * (6 + L) + (6 + h))) = (15, (i1 : Int), (h : Int))) := by
                        show _ = _
                        rw [HSQ.out _ (by omega), if_neg (by omega)]
                        simp only [Prod.mk.injEq, true_and]
                        omega
                      have hn5 : 4 + 3 * T + L + (i * (6 + L) + (6 + h)) ≤ 65000 := by have := HBi.out; omega
                      generalize hn : 4 + 3 * T + L + (i * (6 + L) + (6 + h)) = n at *
                      have HN := Lib.hid hn
                      clear hn
                      obtain ⟨va, vc, rfl⟩ := owns_shape hA7.out
                      have z1 := W7.size
                      have l3 := D7.lt
                      have A2 := Lib.hid (hA7.out.below ((Below.refl _ _).alloc (Nat.le_refl _) (.cells #[.int .i64 15, .int .i64 i1, .int .i64 h] 36)))
                      go_wp2_with (at_builtin; refine append_one rfl (.tmp 67) (.tmp 71) 70 rfl (w.heap.size + 1) 36 _ 3 24 Tryd.underlying70 info36 rfl (by decide) _ n _ rfl A2.out wr.heap.size 36 [.int .i64 15, .int .i64 i1, .int .i64 h] rfl (Blk.new wr [.int .i64 15, .int .i64 i1, .int .i64 h] 36) rfl (by intro u hu; simp at hu; rcases hu with rfl | rfl | rfl <;> rfl) ?c1 (by omega) ?c2 ?_)
                      case c1 => omega
                      case c2 => simp; omega
                      intro va5 vc5 w5 hA5 hg5
                      have M5 : Mod (fun q => w.heap.size + 1 ≤ q) wr w5 := ((Mod.refl _ _).alloc _).grown hg5 (fun q hq _ => own_ge A2.out q hq)
                      have A5 := Lib.hid (SL.next hA5 HSP.out)
                      have D5 := M5.blk D7 (by omega)
                      have W5 := below_mod W7 M5 (by omega) (fun q hq => by omega)
                      clear hA5 hg5 M5 A2 HSP hA7 D7 W7 C7
                      go_wp2_with fail
                      go_roundw
                      case rel =>
                        refine ⟨h + 1, by go_num, by omega, ?_, D5, W5⟩
                        rw [show 4 + 3 * T + L + (i * (6 + L) + (6 + (h + 1))) = n + 1 by have := HN.out; omega]
                        exact A5
                      case measure => simp [intOf]; omega
                    · obtain rfl : L = h := by omega
                      have hA8 : Hid (SL wr (w.heap.size + 1) u3 T L (4 + 3 * T + L + (i + 1) * (6 + L))) := by
                        rw [show 4 + 3 * T + L + (i + 1) * (6 + L) = 4 + 3 * T + L + (i * (6 + L) + (6 + L)) by rw [Nat.add_mul]; omega]
                        exact hA7
                      clear hA9 D6 W6 C6 hA7 hhL hh
                      go_wp2_with fail
                      go_roundw
                      case rel => exact ⟨i + 1, by rw [← hi1]; go_num, by omega, hA8, D7, W7⟩
                      case measure => simp [intOf]; omega
            · obtain rfl : S = i := by omega
              have di : decide (((S + 1 : Nat) : Int) ≤ (S : Int)) = false := decide_eq_false (by omega)
              have hF : Hid (SL wr (w.heap.size + 1) u3 T L (lenP T S L)) := hA5
              have HW := Lib.hid W5
              obtain ⟨va, vc, rfl⟩ := owns_shape hF.out
              have di2 : decide (S + 1 ≤ S) = false := decide_eq_false (by omega)
              generalize hi1 : S + 1 = i1 at *
              clear hA4 D4 W4 C4 hA5 W5
              go_wp2_with fail
              go_ret
              exact ⟨va, vc, rfl, hF.out, HW.out⟩
end
end Go.Proofs.YtippfkokgpdmdaaDoor
