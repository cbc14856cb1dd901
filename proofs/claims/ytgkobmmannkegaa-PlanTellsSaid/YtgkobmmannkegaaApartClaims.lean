/-
  The law PlanApart, walked whole.
-/
import Derived.Test.YtgkobmmannkegaaApartWalk
namespace Go.Proofs.Ytgkobmmannkegaa
open Go Go.RowKit
set_option linter.unusedVariables false

abbrev bools (l : List Bool) : List Value := l.map .bool
/-- Which places have been met. -/
def marks (l : List Nat) (n k : Nat) : List Bool := (List.range n).map fun j => decide (j ∈ l.take k)
theorem marks_get (l : List Nat) (n k j : Nat) (h : j < n) : (bools (marks l n k))[j]? = some (.bool (decide (j ∈ l.take k))) := by simp [marks, h]
theorem marks_zero (l : List Nat) (n : Nat) : marks l n 0 = List.replicate n false := by
  simp only [marks, List.take_zero, List.not_mem_nil, decide_false]
  rw [List.eq_replicate_iff]
  simp
theorem marks_succ (l : List Nat) (n k : Nat) (hk : k < l.length) (hx : l[k] < n) : bools (marks l n (k + 1)) = (bools (marks l n k)).set l[k] (.bool true) := by
  apply List.ext_getElem?
  intro j
  by_cases hj : j < n
  · rw [marks_get l n (k + 1) j hj, List.getElem?_set]
    have hlen : (bools (marks l n k)).length = n := by simp [marks]
    have hm : j ∈ l.take (k + 1) ↔ j ∈ l.take k ∨ j = l[k] := by rw [List.take_succ_eq_append_getElem hk, List.mem_append, List.mem_singleton]
    rw [hlen]
    by_cases e : l[k] = j
    · rw [if_pos e, if_pos hx, decide_eq_true (hm.2 (.inr e.symm))]
    · have hd : decide (j ∈ l.take (k + 1)) = decide (j ∈ l.take k) := by
        rw [decide_eq_decide, hm]
        exact ⟨fun h => h.resolve_right (fun h => e h.symm), .inl⟩
      rw [if_neg e, marks_get l n k j hj, hd]
  · rw [List.getElem?_eq_none (by simp [marks]; omega), List.getElem?_eq_none (by simp [marks]; omega)]
theorem not_met {l : List Nat} (h : l.Nodup) (k : Nat) (hk : k < l.length) : l[k] ∉ l.take k := by
  intro hm
  have e : l = l.take k ++ l.drop k := (List.take_append_drop k l).symm
  rw [e, List.nodup_append] at h
  exact h.2.2 _ hm l[k] (by rw [List.drop_eq_getElem_cons hk]; exact List.mem_cons_self) rfl
theorem info4 : (Try.prog.info? 4).map (fun i => (i.zero, i.size, i.bytes)) = some (some (.bool false), 1, 1) := by kernel_rfl
theorem run_mkbool (n : Nat) (hn : n ≤ 65536) (w : World) :
    (Instr.makeSlice 51 (.int .i64 (n : Int)) (.int .i64 (n : Int))).run Try.prog w = .ok (.slice (some ⟨w.heap.size, 0, none⟩) n n) (w.alloc (.cells (Array.replicate n (.bool false)) 4)) := by
  obtain ⟨i0, hi, hz0, hz1, hz2⟩ := info_parts info4
  have hb : (i0.bytes : Int) * (n : Int) ≤ 281474976710656 := by rw [hz2]; omega
  have hr := run_make (P := Try.prog) w 51 4 i0 (.bool false) Try.underlying51 hi hz0 .i64 .i64 (n : Int) (n : Int) (by omega) (by omega) hb (by omega)
  simp only [Int.toNat_natCast] at hr
  rw [hr, hz1]
  have e : madeCells (Value.bool false).cells (n * 1) = Array.replicate n (.bool false) := by
    rw [Nat.mul_one]
    apply Array.ext'
    have := toList_madeCells_one (.bool false) n
    simpa [Value.cells] using this
  rw [e]
theorem places_cells {w : World} {lo : Nat} {va : Option Addr} {vc : Nat} {l : List Nat} (h : Places w lo (.slice va l.length vc) l) (h0 : 0 < l.length) :
    ∃ g, va = some ⟨g, 0, none⟩ ∧ lo ≤ g ∧ g < w.heap.size ∧ ∀ j (hj : j < l.length), w.cell? ⟨g, j, none⟩ = some (.int .i64 ((l[j] : Nat) : Int)) := by
  rcases h.2 with ⟨_, hn⟩ | ⟨g, cap, cur, hv, hb, hg, _⟩
  · omega
  · simp only [Value.slice.injEq] at hv
    obtain ⟨rfl, _, rfl⟩ := hv
    refine ⟨g, rfl, hb, (Array.getElem?_eq_some_iff.1 hg).1, fun j hj => ?_⟩
    have := World.ownsRow.cells h (g := g) rfl j (.int .i64 ((l[j] : Nat) : Int)) (by simp [hj])
    rwa [Addr.add_lit, Nat.zero_add] at this

theorem ownsRow_mod' {w w' : World} {lo : Nat} {e : TypeId} {size n c : Nat} {g b : Nat} {xs : List Value} (h : w.ownsRow lo e size (.slice (some ⟨g, 0, none⟩) n c) n xs) (hm : Mod (fun k => k = b) w w') (hne : g ≠ b) : w'.ownsRow lo e size (.slice (some ⟨g, 0, none⟩) n c) n xs := by
  refine ⟨h.1, ?_⟩
  rcases h.2 with hn | ⟨g', cap, cur, hv, hg, hgg, rest⟩
  · exact .inl hn
  · refine .inr ⟨g', cap, cur, hv, hg, ?_, rest⟩
    cases hv
    rw [hm.block g (Array.getElem?_eq_some_iff.1 hgg).1 hne]; exact hgg
theorem plan_awake : Gives 57 #[] (.bool true) := by
  intro w
  have e1 : wrap64 (4 + 3 * (2 : Int) + 4 + 3 * (6 + 4)) = 44 := by rw [wrap64_def]; decide
  have e2 : nextP 2 4 0 1 = 11 := by unfold nextP; rw [if_pos rfl, wrap64_def]; decide
  have e3 : slotP 2 4 2 0 = 24 := by unfold slotP; rw [wrap64_def]; decide
  have p1 := words_calls 2 3 4 0
  rw [e1] at p1
  have p2 := next_calls 2 3 4 0 0 1
  rw [e2] at p2
  have p3 := state_calls 2 3 4 0 2
  rw [e3] at p3
  have P1 := Lib.hid p1
  have P2 := Lib.hid p2
  have P3 := Lib.hid p3
  clear e1 e2 e3 p1 p2 p3
  go_enter Try.func57, Try.ntmps57
  go_wp2_with fail
  refine (P1.out _).mono ?_
  rintro e w1 ⟨rfl, hb1⟩
  have B1 := (Blk.new w [.int .i64 2, .int .i64 3, .int .i64 4, .int .u64 0] 24).below' hb1
  have C1 := B1.cell
  have W1 := Below.step _ hb1
  clear hb1
  go_wp2_with fail
  refine (P2.out _).mono ?_
  rintro e w2 ⟨rfl, hb2⟩
  have B2 := B1.below' hb2
  have C2 := B2.cell
  have W2 := W1.trans (hb2.mono W1.size)
  clear C1 B1 hb2 W1
  go_wp2_with fail
  refine (P3.out _).mono ?_
  rintro e w3 ⟨rfl, hb3⟩
  have B3 := B2.below' hb3
  have C3 := B3.cell
  have W3 := W2.trans (hb3.mono W2.size)
  clear C2 B2 hb3 W2
  go_wp2_with fail
  refine (right_yes 2 3 4 0 (by decide) _).mono ?_
  rintro e w4 ⟨rfl, hb4⟩
  have W4 := W3.trans (hb4.mono W3.size)
  clear C3 B3 W3
  go_wp2_with fail
  refine (right_no 0 0 0 0 (by decide) _).mono ?_
  rintro e w5 ⟨rfl, hb5⟩
  go_wp2_with fail
  go_ret
  exact ⟨rfl, W4.trans (hb5.mono W4.size)⟩
set_option maxHeartbeats 2000000 in
theorem apart_wrong (T S L G : Int) (h : ¬ PRight T S L G) (w : World) : Calls Try.prog 5 #[planV T S L G] w fun e w' => e = .returned (.bool true) ∧ Below w.heap.size w w' := by
  have HP := Lib.hid h
  have HA := Lib.hid plan_awake
  have P0 := Blk.new w [.int .i64 T, .int .i64 S, .int .i64 L, .int .u64 G] 24
  by_cases h0 : 8 < T
  · clear h
    go_enter Try.func5, Try.ntmps5
    go_wp2_with fail
    refine (HA.out _).mono ?_
    rintro e w1 ⟨rfl, hb1⟩
    have P1 := P0.below' hb1
    have C1 := P1.cell
    have W1 := Below.step _ hb1
    clear P0 hb1
    go_wp2_with fail
    refine (right_no T S L G HP.out _).mono ?_
    rintro e w2 ⟨rfl, hb2⟩
    have C2 := (P1.below' hb2).cell
    have W2 := W1.trans (hb2.mono W1.size)
    clear P1 C1 hb2
    go_wp2_with fail
    refine (HA.out _).mono ?_
    rintro e w3 ⟨rfl, hb3⟩
    go_wp2_with fail
    go_ret
    exact ⟨rfl, W2.trans (hb3.mono W2.size)⟩
  by_cases h1 : 64 < S
  · clear h
    go_enter Try.func5, Try.ntmps5
    go_wp2_with fail
    refine (HA.out _).mono ?_
    rintro e w1 ⟨rfl, hb1⟩
    have P1 := P0.below' hb1
    have C1 := P1.cell
    have W1 := Below.step _ hb1
    clear P0 hb1
    go_wp2_with fail
    refine (right_no T S L G HP.out _).mono ?_
    rintro e w2 ⟨rfl, hb2⟩
    have C2 := (P1.below' hb2).cell
    have W2 := W1.trans (hb2.mono W1.size)
    clear P1 C1 hb2
    go_wp2_with fail
    refine (HA.out _).mono ?_
    rintro e w3 ⟨rfl, hb3⟩
    go_wp2_with fail
    go_ret
    exact ⟨rfl, W2.trans (hb3.mono W2.size)⟩
  by_cases h2 : 8 < L
  · clear h
    go_enter Try.func5, Try.ntmps5
    go_wp2_with fail
    refine (HA.out _).mono ?_
    rintro e w1 ⟨rfl, hb1⟩
    have P1 := P0.below' hb1
    have C1 := P1.cell
    have W1 := Below.step _ hb1
    clear P0 hb1
    go_wp2_with fail
    refine (right_no T S L G HP.out _).mono ?_
    rintro e w2 ⟨rfl, hb2⟩
    have C2 := (P1.below' hb2).cell
    have W2 := W1.trans (hb2.mono W1.size)
    clear P1 C1 hb2
    go_wp2_with fail
    refine (HA.out _).mono ?_
    rintro e w3 ⟨rfl, hb3⟩
    go_wp2_with fail
    go_ret
    exact ⟨rfl, W2.trans (hb3.mono W2.size)⟩
  by_cases h3 : T < 1
  · clear h
    go_enter Try.func5, Try.ntmps5
    go_wp2_with fail
    refine (HA.out _).mono ?_
    rintro e w1 ⟨rfl, hb1⟩
    have P1 := P0.below' hb1
    have C1 := P1.cell
    have W1 := Below.step _ hb1
    clear P0 hb1
    go_wp2_with fail
    refine (right_no T S L G HP.out _).mono ?_
    rintro e w2 ⟨rfl, hb2⟩
    have C2 := (P1.below' hb2).cell
    have W2 := W1.trans (hb2.mono W1.size)
    clear P1 C1 hb2
    go_wp2_with fail
    refine (HA.out _).mono ?_
    rintro e w3 ⟨rfl, hb3⟩
    go_wp2_with fail
    go_ret
    exact ⟨rfl, W2.trans (hb3.mono W2.size)⟩
  by_cases h4 : S < 1
  · clear h
    go_enter Try.func5, Try.ntmps5
    go_wp2_with fail
    refine (HA.out _).mono ?_
    rintro e w1 ⟨rfl, hb1⟩
    have P1 := P0.below' hb1
    have C1 := P1.cell
    have W1 := Below.step _ hb1
    clear P0 hb1
    go_wp2_with fail
    refine (right_no T S L G HP.out _).mono ?_
    rintro e w2 ⟨rfl, hb2⟩
    have C2 := (P1.below' hb2).cell
    have W2 := W1.trans (hb2.mono W1.size)
    clear P1 C1 hb2
    go_wp2_with fail
    refine (HA.out _).mono ?_
    rintro e w3 ⟨rfl, hb3⟩
    go_wp2_with fail
    go_ret
    exact ⟨rfl, W2.trans (hb3.mono W2.size)⟩
  by_cases h5 : L < 1
  · clear h
    go_enter Try.func5, Try.ntmps5
    go_wp2_with fail
    refine (HA.out _).mono ?_
    rintro e w1 ⟨rfl, hb1⟩
    have P1 := P0.below' hb1
    have C1 := P1.cell
    have W1 := Below.step _ hb1
    clear P0 hb1
    go_wp2_with fail
    refine (right_no T S L G HP.out _).mono ?_
    rintro e w2 ⟨rfl, hb2⟩
    have C2 := (P1.below' hb2).cell
    have W2 := W1.trans (hb2.mono W1.size)
    clear P1 C1 hb2
    go_wp2_with fail
    refine (HA.out _).mono ?_
    rintro e w3 ⟨rfl, hb3⟩
    go_wp2_with fail
    go_ret
    exact ⟨rfl, W2.trans (hb3.mono W2.size)⟩
  have h6 : 4294967295 < G := by unfold PRight at h; omega
  clear h
  go_enter Try.func5, Try.ntmps5
  go_wp2_with fail
  refine (HA.out _).mono ?_
  rintro e w1 ⟨rfl, hb1⟩
  have P1 := P0.below' hb1
  have C1 := P1.cell
  have W1 := Below.step _ hb1
  clear P0 hb1
  go_wp2_with fail
  refine (right_no T S L G HP.out _).mono ?_
  rintro e w2 ⟨rfl, hb2⟩
  have C2 := (P1.below' hb2).cell
  have W2 := W1.trans (hb2.mono W1.size)
  clear P1 C1 hb2
  go_wp2_with fail
  refine (HA.out _).mono ?_
  rintro e w3 ⟨rfl, hb3⟩
  go_wp2_with fail
  go_ret
  exact ⟨rfl, W2.trans (hb3.mono W2.size)⟩

set_option maxHeartbeats 2000000 in
theorem apart_right (T S L : Nat) (G : Int) (h : PRight T S L G) (w : World) : Calls Try.prog 5 #[planV T S L G] w fun e w' => e = .returned (.bool true) ∧ Below w.heap.size w w' := by
  have hT : T ≤ 8 := by have := h.1; omega
  have hS : S ≤ 64 := by have := h.2.1; omega
  have hL : L ≤ 8 := by have := h.2.2.1; omega
  have HP := Lib.hid h
  have HA := Lib.hid plan_awake
  have hwd := words_calls T S L G
  rw [words_eq T S L hT hS hL] at hwd
  have HW := Lib.hid hwd
  have hlen := pAll_length T L S
  have hnd := Lib.hid (pAll_nodup T L S)
  have hmem := Lib.hid (pAll_mem T L S)
  have hle := pCount_le T S L hT hS hL
  have HAll := Lib.hid (all_calls T S L G hT hS hL)
  generalize pAll T L (S + 1) = l at *
  generalize pCount T S L = n at *
  subst hlen
  have hmk := fun W => run_mkbool l.length (by omega) W
  have P0 := Blk.new w [.int .i64 T, .int .i64 S, .int .i64 L, .int .u64 G] 24
  clear h hwd
  go_enter Try.func5, Try.ntmps5
  go_wp2_with fail
  refine (HA.out _).mono ?_
  rintro e w1 ⟨rfl, hb1⟩
  have P1 := P0.below' hb1
  have C1 := P1.cell
  have W1 := Below.step _ hb1
  clear P0 hb1
  go_wp2_with fail
  refine (right_yes T S L G HP.out _).mono ?_
  rintro e w2 ⟨rfl, hb2⟩
  have P2 := P1.below' hb2
  have C2 := P2.cell
  have W2 := W1.trans (hb2.mono W1.size)
  clear P1 C1 hb2 W1
  go_wp2_with fail
  refine (HAll.out _).mono ?_
  rintro e w3 ⟨va, vc, rfl, hD, hb3⟩
  have P3 := P2.below' hb3
  have C3 := P3.cell
  have W3 := W2.trans (hb3.mono W2.size)
  have HD := Lib.hid hD
  clear P2 C2 hb3 W2 hD
  go_wp2_with fail
  refine (HW.out _).mono ?_
  rintro e w4 ⟨rfl, hb4⟩
  have W4 := W3.trans (hb4.mono W3.size)
  have D4 := Lib.hid (places_step HD.out hb4)
  clear P3 C3 hb4 HD
  go_wp2_with fail
  have M0 : Hid (Blk (w4.alloc (.cells (Array.replicate l.length (.bool false)) 4)) w4.heap.size (bools (marks l l.length 0)) 4) := by
    show Blk _ _ _ _
    have h := Blk.new w4 (bools (marks l l.length 0)) 4
    have e : (bools (marks l l.length 0)).toArray = Array.replicate l.length (.bool false) := by rw [marks_zero]; simp
    rwa [e] at h
  have D5 := Lib.hid (World.ownsRow.alloc D4.out (.cells (Array.replicate l.length (.bool false)) 4))
  have W5 := W4.alloc W4.size (.cells (Array.replicate l.length (.bool false)) 4)
  have z4 := W4.size
  clear W3 D4 hmk
  go_loopw [6] (fun i wr => ∃ (k : Nat), i = .int .i64 k ∧ k ≤ l.length ∧ Hid (Places wr (w2.heap.size + 1) (.slice va l.length vc) l) ∧ Hid (Blk wr w4.heap.size (bools (marks l l.length k)) 4) ∧ Below w.heap.size w wr) (fun i _ => l.length - (intOf i).toNat)
  case atStart => exact ⟨0, rfl, by omega, D5, M0, W5⟩
  case round =>
    obtain ⟨k, rfl, hk, hD, hM, hW⟩ := hrel
    clear D5 M0 W5
    by_cases hlt : k < l.length
    · obtain ⟨g, rfl, hg, hg2, hc⟩ := places_cells hD.out (by omega)
      have c1 := hc k hlt
      have hx := hmem.out l[k] (List.getElem_mem _)
      have hn := not_met hnd.out k hlt
      have m1 := hM.out.cell l[k]
      rw [marks_get l l.length k l[k] hx, decide_eq_false hn] at m1
      have f1 := hM.out.frozen l[k]
      have hgne : g ≠ w4.heap.size := by
        rintro rfl
        rcases hD.out.2 with ⟨_, hn⟩ | ⟨g', cap, cur, hv, hb, hgg, _⟩
        · omega
        · cases hv
          have := hM.out
          unfold Blk at this
          rw [this] at hgg
          injection hgg with hgg
          injection hgg with _ ht
          cases ht
      have hset := hM.out.set l[k] (.bool true)
      rw [← marks_succ l l.length k hlt hx] at hset
      have HS := Lib.hid hset
      have M1 := Mod.one wr w4.heap.size l[k] (.bool true)
      have D6 := Lib.hid (ownsRow_mod' hD.out M1 hgne)
      have W6 := below_mod hW M1 hW.size (fun q hq e => by omega)
      have c2 : (wr.setCell ⟨w4.heap.size, l[k], none⟩ (.bool true)).heap.size = wr.heap.size := by simp
      clear hc hn hset M1 c2
      generalize hxe : l[k] = x at *
      clear hxe
      go_wp2_with fail
      go_roundw
      case rel => exact ⟨k + 1, by go_num, by omega, D6, HS, W6⟩
      case measure => simp [intOf]; omega
    · have hge : k = l.length := by omega
      go_wp2_with fail
      refine (HA.out _).mono ?_
      rintro e w6 ⟨rfl, hb6⟩
      go_wp2_with fail
      go_ret
      exact ⟨rfl, hW.trans (hb6.mono hW.size)⟩
end Go.Proofs.Ytgkobmmannkegaa
