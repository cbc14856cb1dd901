/-
  Slots that wait: all of them (slices.Grow, slices.Concat, limbo.All, limbo.Len).
-/
import Derived.Test.YtgkobmmannkegaaLimbo
import Derived.Lib.AppendZeros
import Derived.Laws.AppendOwnNone
namespace Go.Proofs.Ytgkobmmannkegaa
open Go Go.RowKit
set_option linter.unusedVariables false

theorem und3 : Try.prog.underlying 3 = some (.int .i64) := Try.underlying3
theorem grow_zero (w : World) : Calls Try.prog 189 #[.slice none 0 0, .int .i64 0] w fun e w' => e = .returned (.slice none 0 0) ∧ w = w' := by
  go_enter Try.func189, Try.ntmps189
  go_wp2_with fail
  go_ret
  exact ⟨rfl, rfl⟩
set_option maxRecDepth 100000 in
theorem grow_new (w : World) (n : Nat) (h0 : 0 < n) (hn : n ≤ 60000) : Calls Try.prog 189 #[.slice none 0 0, .int .i64 (n : Int)] w fun e w' => ∃ c, e = .returned (.slice (some ⟨w.heap.size, 0, none⟩) 0 c) ∧ RowOf retR 102 w' w.heap.size w.heap.size (.slice (some ⟨w.heap.size, 0, none⟩) 0 c) [] ∧ Below w.heap.size w w' := by
  obtain ⟨i0, hi, hz0, hz1, hz2⟩ := info_parts info102
  have hr := fun W ty => Lib.run_append_nil_zeros (P := Try.prog) W 100 3 ty 102 i0 _ .i64 .i64 Try.underlying100 und3 hi hz0 n h0 (by rw [hz1]; decide) (by omega) (by rw [hz2]; omega)
  have HR := Lib.hid hr
  have b0 : (0 : Int) < (n : Int) := by omega
  clear hr
  go_enter Try.func189, Try.ntmps189
  go_wp2_with (at_builtin; refine Lib.wpList_append_run _ rfl (.tmp 20) (.tmp 21) 100 3 rfl _ _ rfl rfl _ _ (HR.out _ _) ?_)
  go_ret
  have hge := grownCap_ge w n 0 102
  have hle := grownCap_le_maxLen w n 0 102 (by unfold maxLen; omega)
  refine ⟨_, rfl, ⟨⟨by simp [rcells], .inr ⟨w.heap.size, grownCap w n 0 102, _, rfl, Nat.le_refl _, heap_alloc_new w _, Nat.zero_le _, hle, ?_, ?_⟩⟩, fun k hk => by simp [Value.ownBlock] at hk; exact hk.symm⟩, ((Below.refl _ _).alloc (Nat.le_refl _) _).drew⟩
  · simp only [Array.size_append, size_zeroCells]
    rw [← Nat.add_mul]
    show (n + (grownCap w n 0 102 - n)) * 2 = _ * 2
    congr 1
    omega
  · simp [rcells]
theorem grow_any (w : World) (n : Nat) (hn : n ≤ 60000) : Calls Try.prog 189 #[.slice none 0 0, .int .i64 (n : Int)] w fun e w' => ∃ va c, e = .returned (.slice va 0 c) ∧ RowOf retR 102 w' w.heap.size w.heap.size (.slice va 0 c) [] ∧ Below w.heap.size w w' := by
  rcases Nat.eq_zero_or_pos n with h | h
  · subst h
    exact (grow_zero w).mono fun e w' ⟨he, hw⟩ => ⟨none, 0, he, RowOf.nil _ _ _ _, hw ▸ Below.refl _ _⟩
  · exact (grow_new w n h hn).mono fun e w' ⟨c, he, hr, hb⟩ => ⟨_, c, he, hr, hb⟩
theorem RowOf.of_own {w : World} {lo : Nat} {v : Value} {l : List Rt} (h : w.ownsRow lo 102 retR.size v l.length (rcells retR l)) : ∃ r, RowOf retR 102 w lo r v l := by
  cases e : v.ownBlock with
  | none => exact ⟨0, h, fun k hk => by rw [e] at hk; cases hk⟩
  | some q => exact ⟨q, h, fun k hk => by rw [e] at hk; injection hk with hk; exact hk.symm⟩
/-- The first k of some lists, one behind the other. -/
def catL (ls : Nat → List Rt) : Nat → List Rt
  | 0 => []
  | k + 1 => catL ls k ++ ls k
theorem catL_len (ls : Nat → List Rt) (k : Nat) : (catL ls (k + 1)).length = (catL ls k).length + (ls k).length := by simp [catL]
theorem catL_mono (ls : Nat → List Rt) (k : Nat) (h : k ≤ 3) : (catL ls k).length ≤ (catL ls 3).length := by
  have h1 : (catL ls 1).length = (catL ls 0).length + (ls 0).length := catL_len ls 0
  have h2 : (catL ls 2).length = (catL ls 1).length + (ls 1).length := catL_len ls 1
  have h3 : (catL ls 3).length = (catL ls 2).length + (ls 2).length := catL_len ls 2
  have : k = 0 ∨ k = 1 ∨ k = 2 ∨ k = 3 := by omega
  rcases this with rfl | rfl | rfl | rfl <;> omega
theorem RL.cases {w : World} {v : Value} {l : List Rt} (h : RL w v l) : (v = .slice none 0 0 ∧ l = []) ∨ ∃ g c, v = .slice (some ⟨g, 0, none⟩) l.length c ∧ g < w.heap.size ∧ ∀ q u, (rcells retR l)[q]? = some u → w.cell? ⟨g, q, none⟩ = some u := by
  obtain ⟨r, h⟩ := h
  rcases h.1.2 with ⟨rfl, h0⟩ | ⟨g, cap, cur, rfl, hb, hg, hc, hm, hs, ht⟩
  · exact .inl ⟨rfl, List.eq_nil_of_length_eq_zero h0⟩
  · refine .inr ⟨g, cap, rfl, (Array.getElem?_eq_some_iff.1 hg).1, fun q u hq => ?_⟩
    have := World.ownsRow.cells h.1 (g := g) rfl q
    have := this u hq
    rwa [Addr.add_lit, Nat.zero_add] at this
set_option maxHeartbeats 2000000 in
set_option maxRecDepth 100000 in
theorem concat_calls (w : World) (B : Nat) (vs : Nat → Value) (ls : Nat → List Rt) (hB : Blk w B [vs 0, vs 1, vs 2] 100) (hL : ∀ k, k < 3 → RL w (vs k) (ls k)) (hn : (catL ls 3).length ≤ 60000) :
    Calls Try.prog 169 #[.slice (some ⟨B, 0, none⟩) 3 3] w fun e w' => ∃ va vc r, e = .returned (.slice va (catL ls 3).length vc) ∧ RowOf retR 102 w' w.heap.size r (.slice va (catL ls 3).length vc) (catL ls 3) ∧ Below w.heap.size w w' := by
  have HC : Hid (∀ k, k < 3 → w.cell? ⟨B, k, none⟩ = some (vs k)) := fun k hk => by
    have : k = 0 ∨ k = 1 ∨ k = 2 := by omega
    rcases this with rfl | rfl | rfl <;> (rw [hB.cell]; rfl)
  have HL := Lib.hid hL
  have HB := Lib.hid hB
  clear hB hL
  go_enter Try.func169, Try.ntmps169
  go_wp2_with fail
  go_loop [3, 11] (fun s i => ∃ k : Nat, k ≤ 3 ∧ i = .int .i64 k ∧ s = .int .i64 ((catL ls k).length : Int)) (fun _ i => 3 - (intOf i).toNat)
  case atStart => exact ⟨0, by omega, rfl, rfl⟩
  case round =>
    obtain ⟨k, hk, rfl, rfl⟩ := hrel
    by_cases hlt : k < 3
    · have c0 := HC.out k hlt
      obtain ⟨a, c, hv⟩ := (HL.out k hlt).shape
      rw [hv] at c0
      have HLen := Lib.hid (catL_len ls k)
      have b1 : (catL ls k).length ≤ 60000 := Nat.le_trans (catL_mono ls k hk) hn
      have b2 : (ls k).length ≤ 60000 := by have := catL_mono ls (k + 1) (by omega); have := catL_len ls k; omega
      have b3 : (k : Int) < 3 := by omega
      clear hv
      generalize (ls k).length = m at *
      generalize (catL ls k).length = s at *
      go_wp2_with fail
      go_round
      case rel => exact ⟨k + 1, by omega, by go_num, by rw [HLen.out]; go_num⟩
      case measure => simp [intOf]; omega
    · have b1 : (catL ls k).length ≤ 60000 := Nat.le_trans (catL_mono ls k hk) hn
      have b0 : (3 : Int) ≤ (k : Int) := by omega
      go_wp2_with fail
      refine (grow_any _ _ b1).mono ?_
      rintro e w1 ⟨va, c, rfl, hR1, hb1⟩
      have R1 := Lib.hid hR1
      clear hR1 b1
      obtain ⟨i0, hi, hz0, hz1, hz2⟩ := info_parts info102
      dsimp only
      go_wp2_with fail
      go_loopw [6, 27] (fun v i wr => ∃ (k : Nat) (va : Option Addr) (vc r : Nat), k ≤ 3 ∧ i = .int .i64 k ∧ v = .slice va (catL ls k).length vc ∧ Hid (RowOf retR 102 wr w.heap.size r (.slice va (catL ls k).length vc) (catL ls k)) ∧ Below w.heap.size w wr) (fun _ i _ => 3 - (intOf i).toNat)
      case atStart => exact ⟨0, va, c, w.heap.size, by omega, rfl, rfl, R1, hb1⟩
      case round =>
        clear R1 hb1
        obtain ⟨k, va, vc, r, hk, rfl, rfl, hR, hW⟩ := hrel
        by_cases hlt : k < 3
        · have c0 := (hW.cell (p := ⟨B, k, none⟩) HB.out.lt).trans (HC.out k hlt)
          have HLen := Lib.hid (catL_len ls k)
          have b1 : (catL ls k).length ≤ 60000 := Nat.le_trans (catL_mono ls k hk) hn
          have b2 : (catL ls (k + 1)).length ≤ 60000 := Nat.le_trans (catL_mono ls (k + 1) (by omega)) hn
          have b4 : (catL ls k).length + (ls k).length ≤ 60000 := by rw [← HLen.out]; exact b2
          have b3 : (k : Int) < 3 := by omega
          rcases (HL.out k hlt).cases with ⟨hv, hl0⟩ | ⟨g, cap, hv, hg, hcs⟩
          · rw [hv] at c0
            have HE : Hid (catL ls (k + 1) = catL ls k) := by show _ = _; simp [catL, hl0]
            clear hv hl0
            go_wp2_with (at_builtin; refine wpList_append_own_none rfl (.tmp 31) (.tmp 32) 100 rfl w.heap.size 102 i0 retR.size Try.underlying100 hi (.slice va (catL ls k).length vc) (catL ls k).length (rcells retR (catL ls k)) rfl hR.out.1 rfl ?_)
            go_wp2_with fail
            go_roundw
            case rel => exact ⟨k + 1, va, vc, r, by omega, by go_num, by rw [HE.out], by rw [HE.out]; exact hR, hW⟩
            case measure => simp [intOf]; omega
          · rw [hv] at c0
            have HE : Hid (rcells retR (catL ls (k + 1)) = rcells retR (catL ls k) ++ rcells retR (ls k)) := by show _ = _; rw [catL, rcells_append]
            have HCS : Hid (∀ q u, (rcells retR (ls k))[q]? = some u → wr.cell? (Addr.add ⟨g, 0, none⟩ q) = some u) := fun q u hq => by
              rw [Addr.add_lit, Nat.zero_add]
              exact (hW.cell (p := ⟨g, q, none⟩) hg).trans (hcs q u hq)
            have b5 : ((catL ls k).length + (ls k).length) * 16 ≤ 60000 * 16 := Nat.mul_le_mul_right _ b4
            have zW := hW.size
            clear hv hcs
            go_wp2_with (at_builtin; refine wpList_append_own _ rfl (.tmp 31) (.tmp 32) 100 rfl w.heap.size 102 i0 _ retR.size 16 Try.underlying100 hi hz0 hz1 hz2 rfl (by decide) (.slice va (catL ls k).length vc) (catL ls k).length (rcells retR (catL ls k)) rfl hR.out.1 ⟨g, 0, none⟩ (ls k).length cap (rcells retR (ls k)) rfl (rcells_length _ _) HCS.out (rcells_oneCell _ _) (by unfold maxLen; omega) (by omega) zW ?_)
            intro v' w5 hown hg5 _
            have W5 : Below w.heap.size w w5 := hW.grown hg5 zW (fun q hq => own_ge hR.out.1 q hq)
            obtain ⟨va5, vc5, rfl⟩ := owns_shape hown
            rw [← HE.out, ← HLen.out] at hown
            rw [← HLen.out]
            obtain ⟨r5, hR5⟩ := RowOf.of_own hown
            have R5 := Lib.hid hR5
            clear hown hg5 hR hR5
            go_wp2_with fail
            go_roundw
            case rel => exact ⟨k + 1, va5, vc5, r5, by omega, by go_num, rfl, R5, W5⟩
            case measure => simp [intOf]; omega
        · have hk3 : k = 3 := by omega
          have HK := Lib.hid hk3
          clear hk3
          go_wp2_with fail
          go_ret
          refine ⟨va, vc, r, ?_, ?_, hW⟩
          · rw [← HK.out]; rfl
          · rw [← HK.out]; exact hR.out
/-- All slots that wait. -/
abbrev AllOf (w : World) (l : List Rt) (e : Ending) (w' : World) : Prop := ∃ va vc r, e = .returned (.slice va l.length vc) ∧ RowOf retR 102 w' w.heap.size r (.slice va l.length vc) l ∧ Below w.heap.size w w'
theorem RowOf.lower {w : World} {lo lo' r : Nat} {v : Value} {l : List Rt} (h : RowOf retR 102 w lo r v l) (hl : lo' ≤ lo) : RowOf retR 102 w lo' r v l := by
  refine ⟨⟨h.1.1, ?_⟩, h.2⟩
  rcases h.1.2 with hn | ⟨q, cap, cur, rfl, h0, rest⟩
  · exact .inl hn
  · exact .inr ⟨q, cap, cur, rfl, by omega, rest⟩
set_option maxHeartbeats 1000000 in
theorem limbo_all (w : World) (b : Nat) (v0 v1 v2 : Value) (l0 l1 l2 : List Rt) (h : LimboAt w b v0 v1 v2 l0 l1 l2) (hn : (l0 ++ l1 ++ l2).length ≤ 60000) : Calls Try.prog 111 #[.pointer (some ⟨b, 0, none⟩)] w (AllOf w (l0 ++ l1 ++ l2)) := by
  obtain ⟨a0, c0, rfl⟩ := h.r0.shape
  obtain ⟨a1, c1, rfl⟩ := h.r1.shape
  obtain ⟨a2, c2, rfl⟩ := h.r2.shape
  have H := Lib.hid h
  have C := h.blk.cell
  have HK : Hid (∀ W B, Blk W B [.slice a0 l0.length c0, .slice a1 l1.length c1, .slice a2 l2.length c2] 100 → RL W (.slice a0 l0.length c0) l0 → RL W (.slice a1 l1.length c1) l1 → RL W (.slice a2 l2.length c2) l2 → Calls Try.prog 169 #[.slice (some ⟨B, 0, none⟩) 3 3] W (AllOf W (l0 ++ l1 ++ l2))) := fun W B hB h0 h1 h2 => by
    have e : catL (fun k => if k = 0 then l0 else if k = 1 then l1 else l2) 3 = l0 ++ l1 ++ l2 := by simp [catL]
    have := concat_calls W B (fun k => if k = 0 then .slice a0 l0.length c0 else if k = 1 then .slice a1 l1.length c1 else .slice a2 l2.length c2) (fun k => if k = 0 then l0 else if k = 1 then l1 else l2) (by simpa using hB) (fun k hk => by
      have : k = 0 ∨ k = 1 ∨ k = 2 := by omega
      rcases this with rfl | rfl | rfl
      · exact h0
      · exact h1
      · exact h2) (by rw [e]; exact hn)
    rw [e] at this
    exact this
  clear h hn
  generalize l0 ++ l1 ++ l2 = l at *
  go_enter Try.func111, Try.ntmps111
  go_wp2_with fail
  refine wp_region_tail 15 (by kernel_rfl) (by kernel_rfl) ?_
  simp only [List.take_succ_cons, List.take_zero, List.drop_succ_cons, List.drop_zero]
  repeat (quiet_step (fail))
  refine wpQuiet_nil ?_
  intro w1 hb1
  have H1 := Lib.hid ((H.out.below hb1).below ((Below.refl _ _).alloc (Nat.le_refl _) (.cells #[.slice a0 l0.length c0, .slice a1 l1.length c1, .slice a2 l2.length c2] 100)))
  have Q1 := Blk.new w1 [.slice a0 l0.length c0, .slice a1 l1.length c1, .slice a2 l2.length c2] 100
  have HB1 := Lib.hid hb1
  clear C hb1
  go_wp2_with fail
  refine (HK.out _ _ Q1 H1.out.r0 H1.out.r1 H1.out.r2).mono ?_
  rintro e w2 ⟨va, vc, r, rfl, hR, hb2⟩
  have HR := Lib.hid hR
  clear hR
  go_wp2_with fail
  go_ret
  have z1 := HB1.out.size
  exact ⟨va, vc, r, rfl, HR.out.lower (by simp; omega), (HB1.out.alloc z1 _).trans (hb2.mono (by simp; omega))⟩
theorem limbo_all_nil (w : World) : Calls Try.prog 111 #[.pointer none] w fun e w' => e = .returned (.slice none 0 0) ∧ w = w' := by
  go_enter Try.func111, Try.ntmps111
  go_wp2_with fail
  go_ret
  exact ⟨rfl, rfl⟩
theorem limbo_len (w : World) (b : Nat) (v0 v1 v2 : Value) (l0 l1 l2 : List Rt) (h : LimboAt w b v0 v1 v2 l0 l1 l2) (hn : (l0 ++ l1 ++ l2).length ≤ 60000) : Calls Try.prog 112 #[.pointer (some ⟨b, 0, none⟩)] w fun e w' => e = .returned (.int .i64 ((l0 ++ l1 ++ l2).length : Int)) ∧ Below w.heap.size w w' := by
  have K := Lib.hid (limbo_all w b v0 v1 v2 l0 l1 l2 h hn)
  clear h hn
  generalize l0 ++ l1 ++ l2 = l at *
  go_enter Try.func112, Try.ntmps112
  go_wp2_with fail
  refine K.out.mono ?_
  rintro e w2 ⟨va, vc, r, rfl, hR, hb2⟩
  clear hR
  go_wp2_with fail
  go_ret
  exact ⟨rfl, hb2⟩
theorem limbo_len_nil (w : World) : Calls Try.prog 112 #[.pointer none] w fun e w' => e = .returned (.int .i64 0) ∧ w = w' := by
  go_enter Try.func112, Try.ntmps112
  go_wp2_with fail
  refine (limbo_all_nil _).mono ?_
  rintro e w2 ⟨rfl, rfl⟩
  go_wp2_with fail
  go_ret
  exact ⟨rfl, rfl⟩
@[go_sem ↓] theorem run_eql_nil100 (w : World) (a : Option Addr) (n c : Nat) : (binOp .eql 100 (.slice a n c) (.slice none 0 0)).run Try.prog w = .ok (.bool a.isNone) w :=
  Lib.run_eql_slice_nil w 100 102 a n c 0 0 Try.underlying100
set_option maxRecDepth 100000 in
theorem cloneRt (g : Nat) (v : Value) (l : List _) (w : World) (h : RecB retR w g v l) (hn : l.length ≤ 60000) : Calls Try.prog 170 #[v] w fun e w' =>
    ∃ va vc, e = .returned (.slice va l.length vc) ∧ w'.ownsRow w.heap.size 102 (retR).size (.slice va l.length vc) l.length (rcells retR l) ∧ Below w.heap.size w w' := by
  obtain ⟨a, c, rfl, _, hc⟩ := h.ex
  cases a with
  | none =>
    have h0 : l = [] := by
      rcases Nat.eq_zero_or_pos l.length with h0 | h0
      · exact List.eq_nil_of_length_eq_zero h0
      · obtain ⟨_, h1, _⟩ := hc h0; cases h1
    subst h0
    clear hc h
    go_enter Try.func170, Try.ntmps170
    go_wp2_with fail
    go_ret
    exact ⟨none, 0, rfl, World.ownsRow_nil _ _ _ _, Below.refl _ _⟩
  | some ad =>
    obtain ⟨i0, hi, hz0, hz1, hz2⟩ := info_parts info102
    have hcell : ∀ q u, (rcells retR l)[q]? = some u → (w.alloc (.cells #[] 102)).cell? (ad.add q) = some u := by
      intro q u hu
      have hq := (List.getElem?_eq_some_iff.1 hu).1
      obtain ⟨j, i, hj, hi, rfl, e⟩ := rcells_split retR l q hq
      obtain ⟨off, h1, hcs⟩ := hc (by omega)
      cases h1
      have hx := hcs j hj i hi
      rw [← e, hu] at hx
      rw [Addr.add_lit, World.cell?_alloc_lt _ _ _ (World.block_lt_of_cell? w ⟨g, off + (j * (retR).size + i), none⟩ (by rw [← Nat.add_assoc]; exact hx)), ← Nat.add_assoc, hx]
    have hb : (0 + l.length) * 16 ≤ 60000 * 16 := Nat.mul_le_mul_right _ (by omega)
    have HC := Lib.hid hcell
    have HB := Lib.hid hb
    clear hcell hc h hb
    go_enter Try.func170, Try.ntmps170
    go_wp2_with (at_builtin; refine wpList_append_own _ rfl _ _ 100 rfl w.heap.size 102 i0 (.agg #[.int .u64 0, .int .u64 0]) (retR).size 16 Try.underlying100 hi hz0 hz1 hz2 rfl (by decide) (.slice (some ⟨w.heap.size, 0, none⟩) 0 0) 0 [] rfl (World.ownsRow_made w #[] 0 (Nat.le_refl _) (by unfold maxLen; omega) (by simp)) ad l.length c (rcells retR l) rfl ?c1 ?c2 ?c3 ?c4 ?c5 ?c6 ?_)
    case c1 => rw [rcells_length]
    case c2 => exact HC.out
    case c3 => exact rcells_oneCell retR l
    case c4 => unfold maxLen; omega
    case c5 => have := HB.out; omega
    case c6 => simp
    intro v' w1 hown hg _
    have HO := Lib.hid hown
    have HG := Lib.hid hg
    clear hown hg
    obtain ⟨va, vc, rfl⟩ := owns_shape HO.out
    go_wp2_with fail
    go_ret
    refine ⟨va, vc, by simp, by have := HO.out; simpa using this, ?_⟩
    exact ((Below.refl _ w).alloc (Nat.le_refl _) _).grown HG.out (by simp) (fun k hk => by simp [Value.ownBlock] at hk; omega)
end Go.Proofs.Ytgkobmmannkegaa
