/-
  Two lists of acts held against each other; the law TaskLedgers.
-/
import Derived.Test.YtgkobmmannkegaaLedger
namespace Go.Proofs.Ytgkobmmannkegaa
open Go Go.RowKit
set_option linter.unusedVariables false
theorem act_four {w wr : World} {g : Nat} {a : Option Addr} {c : Nat} {l : List Act4} (h : RecB actR w g (.slice a l.length c) l) (hb : Below w.heap.size w wr) (h0 : 0 < l.length) : ∃ off, a = some ⟨g, off, none⟩ ∧ ∀ j (hj : j < l.length),
    wr.cell? ⟨g, off + j * 4, none⟩ = some (.int .i64 (l[j]).kind) ∧ wr.cell? ⟨g, off + j * 4 + 1, none⟩ = some (.int .u64 (l[j]).handle) ∧ wr.cell? ⟨g, off + j * 4 + 2, none⟩ = some (.int .i64 (l[j]).dl) ∧ wr.cell? ⟨g, off + j * 4 + 3, none⟩ = some (.int .i64 (l[j]).step) := by
  have hlt := h.lt h0
  obtain ⟨_, _, hv, hc, hx⟩ := h.ex
  cases hv
  obtain ⟨off, rfl, hcs⟩ := hx h0
  refine ⟨off, rfl, fun j hj => ?_⟩
  have hc := fun i (hi : i < 4) => (hb.cell (p := ⟨g, off + j * 4 + i, none⟩) hlt).trans (hcs j hj i hi)
  exact ⟨hc 0 (by omega), hc 1 (by omega), hc 2 (by omega), hc 3 (by omega)⟩
set_option maxHeartbeats 1000000 in
theorem same_acts (w : World) (b1 b2 : Nat) (a1 a2 : Option Addr) (c1 c2 : Nat) (d : List Act4) (h1 : RecB actR w b1 (.slice a1 d.length c1) d) (h2 : RecB actR w b2 (.slice a2 d.length c2) d) (hn : d.length ≤ 60000) :
    Calls Try.prog 116 #[.slice a1 d.length c1, .slice a2 d.length c2] w fun e w' => e = .returned (.bool true) ∧ Below w.heap.size w w' := by
  have H1 := Lib.hid h1
  have H2 := Lib.hid h2
  clear h1 h2
  go_enter Try.func116, Try.ntmps116
  go_wp2_with fail
  go_loopw [5] (fun i wr => ∃ k : Nat, k ≤ d.length ∧ i = .int .i64 k ∧ Below w.heap.size w wr) (fun i _ => d.length - (intOf i).toNat)
  case atStart => exact ⟨0, by omega, rfl, Below.refl _ _⟩
  case round =>
    obtain ⟨k, hk, rfl, hb⟩ := hrel
    by_cases hlt : k < d.length
    · obtain ⟨o1, rfl, q1⟩ := act_four H1.out hb (by omega)
      obtain ⟨o2, rfl, q2⟩ := act_four H2.out hb (by omega)
      obtain ⟨p0, p1, p2, p3⟩ := q1 k hlt
      obtain ⟨r0, r1, r2, r3⟩ := q2 k hlt
      clear q1 q2
      generalize d[k] = x at *
      have hd : actEq x.kind x.handle x.dl x.step x.kind x.handle x.dl x.step = true := by rw [Act4.beq]; simp
      go_wp2_with fail
      refine wp_region_reads (by kernel_rfl) (by kernel_rfl) ?_
      repeat (quiet_step (fail))
      refine wpQuiet_nil ?_
      intro w1 hb1
      go_wp2_with fail
      go_roundw
      case rel => exact ⟨k + 1, by omega, by go_num, hb.trans (hb1.mono hb.size)⟩
      case measure => simp [intOf]; omega
    · have hge : k = d.length := by omega
      go_wp2_with fail
      go_ret
      exact ⟨rfl, hb⟩
theorem taskLedgers_skip (a : Option Addr) (n c : Nat) (h : 300 < n) (w : World) : Calls Try.prog 18 #[.slice a n c] w fun e w' => e = .returned (.bool true) ∧ Below w.heap.size w w' := by
  go_enter Try.func18, Try.ntmps18
  go_wp2_with fail
  refine (script_awake _).mono ?_
  rintro e w1 ⟨rfl, hb⟩
  go_wp2_with fail
  go_ret
  exact ⟨rfl, hb⟩
theorem notes_four {w : World} {hi n c : Nat} {a : Option Addr} (h : NumsR w hi [.i64, .u64, .i64, .i64] 4 (.slice a n c) n) (h0 : 0 < n) :
    ∃ b off, a = some ⟨b, off, none⟩ ∧ b < hi ∧ ∀ i, i < n → ∃ k hd d s, w.cell? ⟨b, off + i * 4, none⟩ = some (.int .i64 k) ∧ w.cell? ⟨b, off + i * 4 + 1, none⟩ = some (.int .u64 hd) ∧ w.cell? ⟨b, off + i * 4 + 2, none⟩ = some (.int .i64 d) ∧ w.cell? ⟨b, off + i * 4 + 3, none⟩ = some (.int .i64 s) := by
  obtain ⟨_, _, hv, _, hc⟩ := h.ex
  cases hv
  obtain ⟨b, off, rfl, hb, hcs⟩ := hc h0
  refine ⟨b, off, rfl, hb, fun i hi => ?_⟩
  obtain ⟨_, k, e0, c0, _⟩ := hcs i hi 0 (by omega)
  obtain ⟨_, hd, e1, c1, _⟩ := hcs i hi 1 (by omega)
  obtain ⟨_, d, e2, c2, _⟩ := hcs i hi 2 (by omega)
  obtain ⟨_, s, e3, c3, _⟩ := hcs i hi 3 (by omega)
  cases e0; cases e1; cases e2; cases e3
  exact ⟨k, hd, d, s, c0, c1, c2, c3⟩
set_option maxHeartbeats 4000000 in
set_option maxRecDepth 100000 in
theorem taskLedgers_walk (v : Value) (n : Nat) (w : World) (hS : NumsR w w.heap.size [.i64, .u64, .i64, .i64] 4 v n) (hn : n ≤ 300) :
    Calls Try.prog 18 #[v] w fun e w' => e = .returned (.bool true) ∧ Below w.heap.size w w' := by
  have hy := hS
  obtain ⟨sa, sc, rfl, _⟩ := hy.ex
  have HA := Lib.hid script_awake
  have hb1 : Below w.heap.size w (w.alloc (.cells #[.int .i64 0, .slice none 0 0] 117)) := (Below.refl _ _).alloc (Nat.le_refl _) _
  have S1 := Lib.hid (hS.below hb1)
  have L1 : Hid (LedgerAt (w.alloc (.cells #[.int .i64 0, .slice none 0 0] 117)) w.heap.size w.heap.size ((0 : Nat) : Int) []) := ⟨⟨_, Blk.new w [.int .i64 0, .slice none 0 0] 117, RowOf.nil _ _ _ _⟩, by simp⟩
  have R1 : Hid (RowOf actR 119 (w.alloc (.cells #[.int .i64 0, .slice none 0 0] 117)) 0 w.heap.size (.slice none 0 0) []) := RowOf.nil _ _ _ _
  clear hS hy
  go_enter Try.func18, Try.ntmps18
  go_wp2_with fail
  go_loopw [5, 6, 7] (fun vv dd i wr => ∃ (k m r q : Nat) (acts : List Act4), i = .int .i64 k ∧ k ≤ n ∧ dd = .int .i64 m ∧ m ≤ k ∧ acts.length ≤ k ∧ w.heap.size ≤ r ∧ w.heap.size ≤ q ∧ Hid (∀ p, Value.ownBlock vv = some p → p ≠ w.heap.size ∧ p ≠ r ∧ w.heap.size ≤ p) ∧ Hid (LedgerAt wr w.heap.size r m acts) ∧ Hid (RowOf actR 119 wr 0 q vv acts) ∧ q < wr.heap.size ∧
    Hid (NumsR wr w.heap.size [.i64, .u64, .i64, .i64] 4 (.slice sa n sc) n) ∧ Below w.heap.size w wr) (fun _ _ i _ => n - (intOf i).toNat)
  case atStart => exact ⟨0, 0, w.heap.size, w.heap.size, [], rfl, by omega, rfl, by omega, by simp, by omega, by omega, fun p hp => by simp [Value.ownBlock] at hp, L1, R1, by simp, S1, hb1⟩
  case round =>
    obtain ⟨k, m, r, q, acts, rfl, hk, rfl, hm, hal, hr, hq, hqr, hL, hR, hql, hS, hW⟩ := hrel
    clear L1 R1 S1 hb1
    obtain ⟨va, vc, rfl⟩ := owns_shape hR.out.1
    by_cases hlt : k < n
    · obtain ⟨bo, off, rfl, hbo, hcs⟩ := notes_four hS.out (by omega)
      obtain ⟨kd, hd, dl, st, c0, c1, c2, c3⟩ := hcs k hlt
      have hlo := World.block_lt_of_cell? wr _ c0
      clear hcs
      have hb2 : Below wr.heap.size wr (wr.alloc (.cells #[.int .i64 kd, .int .u64 hd, .int .i64 dl, .int .i64 st] 119)) := (Below.refl _ _).alloc (Nat.le_refl _) _
      have L2 := Lib.hid (hL.out.below hb2)
      have R2 := Lib.hid (hR.out.below hb2)
      have S2 := Lib.hid (hS.out.below hb2)
      have B2 := Blk.new wr [.int .i64 kd, .int .u64 hd, .int .i64 dl, .int .i64 st] 119
      have W2 := hW.trans (hb2.mono hW.size)
      have ll := hL.out.lt
      have hR2l := Lib.hid hR.out.1
      clear hL hR hS
      by_cases hk0 : kd = 0
      · subst hk0
        have C2 := B2.cell
        go_wp2_with fail
        refine (ledger_step _ _ _ _ _ L2.out (by omega)).mono ?_
        rintro e w3 ⟨rfl, hL3, hM3⟩
        have L3 := Lib.hid hL3
        have R3 := Lib.hid (R2.out.mod' hM3 (fun p hp e => (hqr.out p hp).1 e))
        have S3 := Lib.hid (S2.out.mod hM3 (fun p hp e => by omega))
        have W3 := below_mod W2 hM3 W2.size (fun p hp e => by omega)
        have z3 := hM3.size
        clear hL3 hM3 L2 R2 S2 W2 C2
        go_wp2_with fail
        refine (ledger_step_nil _).mono ?_
        rintro e w4 ⟨rfl, rfl⟩
        go_wp2_with fail
        go_roundw
        case rel => exact ⟨k + 1, m + 1, r, q, acts, by go_num, by omega, by go_num, by omega, by omega, hr, hq, hqr, L3, R3, by simp at z3; omega, S3, W3⟩
        case measure => simp [intOf]; omega
      · have hkb : (kd == 0) = false := by simpa using hk0
        have C2 := B2.cell
        clear hk0
        go_wp2_with fail
        refine (ledger_note _ _ _ _ _ L2.out (by omega) _ _ _).mono ?_
        rintro e w3 ⟨rfl, r', hL3, hr', hM3⟩
        have L3 := Lib.hid hL3
        have R3 := Lib.hid (R2.out.mod' hM3 (fun p hp e => by have := hqr.out p hp; omega))
        have S3 := Lib.hid (S2.out.mod hM3 (fun p hp e => by omega))
        have W3 := below_mod W2 hM3 W2.size (fun p hp e => by omega)
        have B3 := hM3.blk B2 (by omega)
        have C3 := B3.cell
        have z3 := hM3.size
        have l3 := hL3.lt
        have hown := World.ownsRow.lt hR2l.out
        clear hL3 hM3 L2 R2 S2 W2 C2
        go_wp2_with fail
        refine (ledger_note_nil _ _ _ _).mono ?_
        rintro e w4 ⟨rfl, rfl⟩
        have R4 := Lib.hid (R3.out.below ((Below.refl _ _).alloc (Nat.le_refl _) (.cells #[.int .i64 kd, .int .u64 hd, .int .i64 dl, .int .i64 m] 119)))
        go_wp2_with (at_builtin; refine wpList_append_rec (R := actR) rfl (.tmp 50) (.tmp 59) 114 119 actZ 32 rfl Try.underlying114 info119 rfl (by omega) 0 q _ acts rfl R4.out ⟨kd, hd, dl, m⟩ w3.heap.size rfl (Blk.new w3 [.int .i64 kd, .int .u64 hd, .int .i64 dl, .int .i64 m] 119) (by omega) (Nat.zero_le _) ?_)
        intro va2 vc2 w5 q' hR5 hg5 hq5 hz5
        have M5 : Mod (fun p => Value.ownBlock (.slice va acts.length vc) = some p) w3 w5 := ((Mod.refl _ _).alloc _).grown hg5 (fun p hp _ => hp)
        have hown' : ∀ p, Value.ownBlock (.slice va acts.length vc) = some p → p ≠ w.heap.size ∧ p ≠ r' ∧ w.heap.size ≤ p := fun p hp => by
          have h1 := hqr.out p hp
          have h2 := (hown p hp).2
          simp at z3
          rcases hr' with rfl | h3
          · omega
          · simp at h3; omega
        have L5 := Lib.hid (L3.out.mod M5 (fun e => (hown' _ e).1 rfl) (fun e => (hown' _ e).2.1 rfl))
        have R5 := Lib.hid hR5
        have S5 := Lib.hid (S3.out.mod M5 (fun p hp e => by have := (hown' p e).2.2; omega))
        have W5 := below_mod W3 M5 W3.size (fun p hp e => by have := (hown' p e).2.2; omega)
        have hq5' : w.heap.size ≤ q' ∧ q' ≠ w.heap.size ∧ q' ≠ r' := by
          rcases hq5 with e | e
          · have := hown' q' e; omega
          · have := W3.size
            (try simp at e)
            omega
        have hqr5 : Hid (∀ p, Value.ownBlock (.slice va2 (acts.length + 1) vc2) = some p → p ≠ w.heap.size ∧ p ≠ r' ∧ w.heap.size ≤ p) := fun p hp => by
          have := hR5.2 p hp
          omega
        have hr5 : w.heap.size ≤ r' := by
          rcases hr' with rfl | h3
          · exact hr
          · have := hW.size
            (try simp at h3)
            omega
        clear hR5 hg5 M5 L3 R3 R4 S3 W3
        go_wp2_with fail
        go_roundw
        case rel => exact ⟨k + 1, m, r', q', acts ++ [⟨kd, hd, dl, m⟩], by go_num, by omega, rfl, by omega, by simp; omega, hr5, hq5'.1, hqr5, L5, R5, hz5, S5, W5⟩
        case measure => simp [intOf]; omega
    · have hge : k = n := by omega
      have hal2 : acts.length ≤ 60000 := by omega
      go_wp2_with fail
      refine (ledger_acts _ _ _ _ _ hL.out hal2).mono ?_
      rintro e w2 ⟨va2, vc2, g2, rfl, hG, hb2⟩
      have G2 := Lib.hid hG
      have R2 := Lib.hid (hR.out.below hb2).recB
      have W2 := hW.trans (hb2.mono hW.size)
      clear hG hb2 hL hR hS
      go_wp2_with fail
      refine (same_acts _ _ _ _ _ _ _ acts G2.out R2.out hal2).mono ?_
      rintro e w3 ⟨rfl, hb3⟩
      have W3 := W2.trans (hb3.mono W2.size)
      clear hb3
      go_wp2_with fail
      refine (ledger_acts_nil _).mono ?_
      rintro e w4 ⟨rfl, rfl⟩
      go_wp2_with fail
      refine (HA.out _).mono ?_
      rintro e w4 ⟨rfl, hb4⟩
      go_wp2_with fail
      go_ret
      exact ⟨rfl, W3.trans (hb4.mono W3.size)⟩
end Go.Proofs.Ytgkobmmannkegaa
