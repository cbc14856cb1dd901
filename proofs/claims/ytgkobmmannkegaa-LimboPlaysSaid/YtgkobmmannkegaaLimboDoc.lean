/-
  Slots that wait: the document's functions (sundialref15: Same, Take, Add).
-/
import Derived.Test.YtgkobmmannkegaaLimboClaims
namespace Go.Proofs.Ytgkobmmannkegaa
open Go Go.RowKit
set_option linter.unusedVariables false

theorem RL.at_ {w : World} {v : Value} {l : List Rt} (h : RL w v l) (h0 : 0 < l.length) : ∃ g c, v = .slice (some ⟨g, 0, none⟩) l.length c ∧ g < w.heap.size ∧ ∀ j (hj : j < l.length), w.cell? ⟨g, j * 2, none⟩ = some (.int .u64 l[j].ref) ∧ w.cell? ⟨g, j * 2 + 1, none⟩ = some (.int .u64 l[j].ep) := by
  rcases h.cases with ⟨_, hl⟩ | ⟨g, c, hv, hg, hcs⟩
  · rw [hl] at h0; simp at h0
  · exact ⟨g, c, hv, hg, rl_two (c := c) hcs⟩
set_option maxHeartbeats 1000000 in
set_option maxRecDepth 100000 in
theorem rsame_calls (v1 v2 : Value) (l : List Rt) (w : World) (h1 : RL w v1 l) (h2 : RL w v2 l) (hn : l.length ≤ 60000) : Calls Try.prog 109 #[v1, v2] w fun e w' => e = .returned (.bool true) ∧ Below w.heap.size w w' := by
  obtain ⟨a1, c1, rfl⟩ := h1.shape
  obtain ⟨a2, c2, rfl⟩ := h2.shape
  have H1 := Lib.hid h1
  have H2 := Lib.hid h2
  clear h1 h2
  go_enter Try.func109, Try.ntmps109
  go_wp2_with fail
  go_loopw [5] (fun i wr => ∃ k : Nat, k ≤ l.length ∧ i = .int .i64 k ∧ Below w.heap.size w wr) (fun i _ => l.length - (intOf i).toNat)
  case atStart => exact ⟨0, by omega, rfl, Below.refl _ _⟩
  case round =>
    obtain ⟨k, hk, rfl, hb⟩ := hrel
    by_cases hlt : k < l.length
    · obtain ⟨g1, d1, e1, hg1, q1⟩ := H1.out.at_ (by omega)
      obtain ⟨g2, d2, e2, hg2, q2⟩ := H2.out.at_ (by omega)
      injection e1 with e1 x1 x2
      injection e2 with e2 x3 x4
      subst e1 e2
      clear x1 x2 x3 x4
      have p0 := (hb.cell (p := ⟨g1, k * 2, none⟩) hg1).trans (q1 k hlt).1
      have p1 := (hb.cell (p := ⟨g1, k * 2 + 1, none⟩) hg1).trans (q1 k hlt).2
      have r0 := (hb.cell (p := ⟨g2, k * 2, none⟩) hg2).trans (q2 k hlt).1
      have r1 := (hb.cell (p := ⟨g2, k * 2 + 1, none⟩) hg2).trans (q2 k hlt).2
      clear q1 q2
      have hk8 : (k : Int) < l.length := by omega
      generalize l[k] = x at *
      have hd : rtEq x.ref x.ep x.ref x.ep = true := by rw [Rt.beq]; simp
      go_wp2_with fail
      refine wp_region_reads (by kernel_rfl) (by kernel_rfl) ?_
      repeat (quiet_step (fail))
      refine wpQuiet_nil ?_
      intro w1 hb1
      go_wp2_with fail
      go_roundw
      case rel => exact ⟨k + 1, by omega, by go_num, hb.trans (hb1.mono hb.size)⟩
      case measure => simp [intOf]; omega
    · have hge : k = l.length := by omega
      have hk8 : ¬ (k : Int) < l.length := by omega
      go_wp2_with fail
      go_ret
      exact ⟨rfl, hb⟩
/-- A list whose row lies at or above a block. -/
def RLf (w : World) (lo : Nat) (v : Value) (l : List Rt) : Prop := ∃ r, RowOf retR 102 w lo r v l
/-- Two lists of the call's own. -/
abbrev Two (w : World) (X Y : List Rt) (e : Ending) (w' : World) : Prop := ∃ va vc ua uc, e = .returned (.tuple #[.slice va X.length vc, .slice ua Y.length uc]) ∧ RLf w' w.heap.size (.slice va X.length vc) X ∧ RLf w' w.heap.size (.slice ua Y.length uc) Y ∧ Below w.heap.size w w'
theorem below_row {w w1 w2 w3 : World} {lo r n c : Nat} {a : Option Addr} {E : TypeId} {sz : Nat} {xs : List Value} {m : Nat} (h : Below w.heap.size w w2) (hM : Mod (fun q => Value.ownBlock (.slice a n c) = some q) w2 w3) (ho : ∀ q, Value.ownBlock (.slice a n c) = some q → w.heap.size ≤ q) : Below w.heap.size w w3 :=
  below_mod h hM h.size (fun q hq e => by have := ho q e; omega)
set_option maxHeartbeats 4000000 in
set_option maxRecDepth 100000 in
theorem rtake_calls (v : Value) (l : List Rt) (ep : Int) (w : World) (h : RL w v l) (hn : l.length ≤ 1000) (e0 : 0 ≤ ep) (e1 : ep < 18446744073709551616) : Calls Try.prog 108 #[v, .int .u64 ep] w (Two w (l.filter (ripeB ep)) (l.filter fun x => !ripeB ep x)) := by
  obtain ⟨a1, c1, rfl⟩ := h.shape
  have H1 := Lib.hid h
  have RP : Hid (∀ x e W, Calls Try.prog 167 #[.agg #[.int .u64 x, .int .u64 e], .int .u64 ep] W fun r w' => r = .returned (.bool (ripeB ep ⟨x, e⟩)) ∧ Below W.heap.size W w') := fun x e W => rripe_calls x e ep e0 e1 W
  clear h e0 e1
  generalize hrp : ripeB ep = rp at *
  clear hrp
  go_enter Try.func108, Try.ntmps108
  go_wp2_with fail
  go_loopw [6, 7, 8] (fun v u i wx => ∃ (j : Nat) (X Y : List Rt) (va : Option Addr) (vc r : Nat) (ua : Option Addr) (uc r2 : Nat), j ≤ l.length ∧ i = .int .i64 j ∧ v = .slice va X.length vc ∧ u = .slice ua Y.length uc ∧ Hid (X = (l.take j).filter rp) ∧ Hid (Y = (l.take j).filter (fun x => !rp x)) ∧
    Hid (RowOf retR 102 wx w.heap.size r (.slice va X.length vc) X) ∧ Hid (RowOf retR 102 wx w.heap.size r2 (.slice ua Y.length uc) Y) ∧ Hid (∀ q, Value.ownBlock (.slice va X.length vc) = some q → Value.ownBlock (.slice ua Y.length uc) ≠ some q) ∧ Below w.heap.size w wx) (fun _ _ i _ => l.length - (intOf i).toNat)
  case atStart => exact ⟨0, [], [], none, 0, 0, none, 0, 0, Nat.zero_le _, rfl, rfl, rfl, Lib.hid (by simp), Lib.hid (by simp), RowOf.nil _ _ _ _, RowOf.nil _ _ _ _, Lib.hid (fun q hq => by simp [Value.ownBlock]), Below.refl _ _⟩
  case round =>
    obtain ⟨j, X, Y, va, vc, r, ua, uc, r2, hj, rfl, rfl, rfl, hXe, hYe, hX, hY, hS, hW⟩ := hrel
    by_cases hlj : j < l.length
    · have hXl : X.length ≤ 60000 := by rw [hXe.out]; have := List.length_filter_le rp (l.take j); have := List.length_take_le j l; omega
      have hYl : Y.length ≤ 60000 := by rw [hYe.out]; have := List.length_filter_le (fun x => !rp x) (l.take j); have := List.length_take_le j l; omega
      obtain ⟨g, d1, ev, hg, q1⟩ := H1.out.at_ (by omega)
      injection ev with ev x1 x2
      subst ev
      clear x1 x2
      have c0 := (hW.cell (p := ⟨g, j * 2, none⟩) hg).trans (q1 j hlj).1
      have c1' := (hW.cell (p := ⟨g, j * 2 + 1, none⟩) hg).trans (q1 j hlj).2
      have TX := take_filter l rp j hlj
      have TY := take_filter l (fun x => !rp x) j hlj
      have b4 : (j : Int) < l.length := by omega
      have zW := hW.size
      obtain ⟨⟨xr, xe⟩, hxe⟩ : ∃ x, x = l[j] := ⟨_, rfl⟩
      rw [← hxe] at c0 c1' TX TY
      have HTX := Lib.hid TX
      have HTY := Lib.hid TY
      have HG := Lib.hid hg
      clear q1 TX TY hxe
      dsimp only at c0 c1'
      go_wp2_with fail
      refine (RP.out xr xe _).mono ?_
      rintro e w2 ⟨rfl, hb2⟩
      have c2 := (hb2.cell (p := ⟨g, j * 2, none⟩) (Nat.lt_of_lt_of_le hg zW)).trans c0
      have c3 := (hb2.cell (p := ⟨g, j * 2 + 1, none⟩) (Nat.lt_of_lt_of_le hg zW)).trans c1'
      have X2 := Lib.hid (hX.out.below hb2)
      have Y2 := Lib.hid (hY.out.below hb2)
      have hW2 := hW.trans (hb2.mono zW)
      have zlo : w.heap.size ≤ (w2.alloc (.cells #[.int .u64 xr, .int .u64 xe] 102)).heap.size := by have := hb2.size; simp; omega
      have zlo2 : w.heap.size ≤ w2.heap.size := by have := hb2.size; omega
      clear hb2
      dsimp only
      cases hr : rp ⟨xr, xe⟩ with
      | true =>
        have HX1 : Hid (X ++ [(⟨xr, xe⟩ : Rt)] = (l.take (j + 1)).filter rp) := by show _ = _; rw [HTX.out, hr, hXe.out]; simp
        have HY1 : Hid (Y = (l.take (j + 1)).filter (fun x => !rp x)) := by show _ = _; rw [HTY.out, hr, hYe.out]; simp
        clear hr
        go_wp2_with (at_builtin; refine wpList_append_rec (R := retR) rfl (.tmp 21) (.tmp 26) 100 102 _ 16 rfl Try.underlying100 info102 rfl (by omega) w.heap.size r _ X rfl (X2.out.below ((Below.refl _ _).alloc (Nat.le_refl _) (.cells #[.int .u64 xr, .int .u64 xe] 102))) ⟨xr, xe⟩ w2.heap.size rfl (Blk.new w2 [.int .u64 xr, .int .u64 xe] 102) hXl zlo ?_)
        intro va5 vc5 w5 r5 hR5 hg5 hq5 hz5
        have M5 : Mod (fun q => Value.ownBlock (.slice va X.length vc) = some q) w2 w5 := ((Mod.refl _ _).alloc _).grown hg5 (fun q hq _ => hq)
        have hsz : (w2.alloc (.cells #[.int .u64 xr, .int .u64 xe] 102)).heap.size = w2.heap.size + 1 := by simp
        have O5 := Lib.hid (Y2.out.mod' M5 (fun q hq e => hS.out q e hq))
        have W5 : Below w.heap.size w w5 := below_mod hW2 M5 zlo2 (fun q hq e => by have := own_ge X2.out.1 q e; omega)
        have S5 : Hid (∀ q, Value.ownBlock (.slice va5 (X ++ [(⟨xr, xe⟩ : Rt)]).length vc5) = some q → Value.ownBlock (.slice ua Y.length uc) ≠ some q) := by
          rw [List.length_append, List.length_singleton]
          exact ap_new hR5 hq5 (fun q => Value.ownBlock (.slice ua Y.length uc) ≠ some q) (fun q hq e => hS.out q hq e) (fun e => by have := (World.ownsRow.lt Y2.out.1 _ e).2; omega)
        have R5 : Hid (RowOf retR 102 w5 w.heap.size r5 (.slice va5 (X ++ [(⟨xr, xe⟩ : Rt)]).length vc5) (X ++ [(⟨xr, xe⟩ : Rt)])) := by
          rw [List.length_append, List.length_singleton]; exact hR5
        have hl5 : X.length + 1 = (X ++ [(⟨xr, xe⟩ : Rt)]).length := by simp
        clear hR5 hg5 hq5 hz5 M5 hsz X2 Y2 hX hY hS c0 c1' hW2 hW
        go_wp2_with fail
        go_roundw
        case rel => exact ⟨j + 1, X ++ [(⟨xr, xe⟩ : Rt)], Y, va5, vc5, r5, ua, uc, r2, by omega, by go_num, by rw [hl5], rfl, HX1, HY1, R5, O5, S5, W5⟩
        case measure => simp [intOf]; omega
      | false =>
        have HX1 : Hid (X = (l.take (j + 1)).filter rp) := by show _ = _; rw [HTX.out, hr, hXe.out]; simp
        have HY1 : Hid (Y ++ [(⟨xr, xe⟩ : Rt)] = (l.take (j + 1)).filter (fun x => !rp x)) := by show _ = _; rw [HTY.out, hr, hYe.out]; simp
        clear hr
        go_wp2_with (at_builtin; refine wpList_append_rec (R := retR) rfl (.tmp 28) (.tmp 33) 100 102 _ 16 rfl Try.underlying100 info102 rfl (by omega) w.heap.size r2 _ Y rfl (Y2.out.below ((Below.refl _ _).alloc (Nat.le_refl _) (.cells #[.int .u64 xr, .int .u64 xe] 102))) ⟨xr, xe⟩ w2.heap.size rfl (Blk.new w2 [.int .u64 xr, .int .u64 xe] 102) hYl zlo ?_)
        intro va5 vc5 w5 r5 hR5 hg5 hq5 hz5
        have M5 : Mod (fun q => Value.ownBlock (.slice ua Y.length uc) = some q) w2 w5 := ((Mod.refl _ _).alloc _).grown hg5 (fun q hq _ => hq)
        have hsz : (w2.alloc (.cells #[.int .u64 xr, .int .u64 xe] 102)).heap.size = w2.heap.size + 1 := by simp
        have O5 := Lib.hid (X2.out.mod' M5 (fun q hq e => hS.out q hq e))
        have W5 : Below w.heap.size w w5 := below_mod hW2 M5 zlo2 (fun q hq e => by have := own_ge Y2.out.1 q e; omega)
        have S5 : Hid (∀ q, Value.ownBlock (.slice va5 (Y ++ [(⟨xr, xe⟩ : Rt)]).length vc5) = some q → Value.ownBlock (.slice va X.length vc) ≠ some q) := by
          rw [List.length_append, List.length_singleton]
          exact ap_new hR5 hq5 (fun q => Value.ownBlock (.slice va X.length vc) ≠ some q) (fun q hq e => hS.out q e hq) (fun e => by have := (World.ownsRow.lt X2.out.1 _ e).2; omega)
        have R5 : Hid (RowOf retR 102 w5 w.heap.size r5 (.slice va5 (Y ++ [(⟨xr, xe⟩ : Rt)]).length vc5) (Y ++ [(⟨xr, xe⟩ : Rt)])) := by
          rw [List.length_append, List.length_singleton]; exact hR5
        have hl5 : Y.length + 1 = (Y ++ [(⟨xr, xe⟩ : Rt)]).length := by simp
        clear hR5 hg5 hq5 hz5 M5 hsz X2 Y2 hX hY hS c0 c1' hW2 hW
        go_wp2_with fail
        go_roundw
        case rel => exact ⟨j + 1, X, Y ++ [(⟨xr, xe⟩ : Rt)], va, vc, r, va5, vc5, r5, by omega, by go_num, rfl, by rw [hl5], HX1, HY1, O5, R5, Lib.hid (fun q h1 h2 => S5.out q h2 h1), W5⟩
        case measure => simp [intOf]; omega
    · have hjl : l.take j = l := List.take_of_length_le (by omega)
      have b4 : ¬ (j : Int) < l.length := by omega
      have FX := hXe.out
      have FY := hYe.out
      rw [hjl] at FX FY
      have HFX := Lib.hid FX
      have HFY := Lib.hid FY
      clear hjl FX FY
      go_wp2_with fail
      go_ret2
      rw [← HFX.out, ← HFY.out]
      exact ⟨va, vc, ua, uc, rfl, ⟨r, hX.out⟩, ⟨r2, hY.out⟩, hW⟩
theorem RL.cap {w : World} {l : List Rt} {a : Option Addr} {n c : Nat} (h : RL w (.slice a n c) l) : n ≤ c := by
  obtain ⟨r, h⟩ := h
  obtain ⟨a', c', hv, hc, _⟩ := h.recB.ex
  injection hv with _ h1 h2
  omega
/-- The box that Add makes, and what it has seen. -/
structure RA (w : World) (x e : Int) (wx : World) : Prop where
  blk : Blk wx w.heap.size [.int .u64 x, .int .u64 e] 102
  bel : Below w.heap.size w wx
def fAdd (l : List Rt) (e : Int) (i : Nat) : Bool := decide ((l.getD i ⟨0, 0⟩).ep % 3 ≤ e % 3)
set_option maxHeartbeats 4000000 in
set_option maxRecDepth 100000 in
theorem radd_calls (v : Value) (l : List Rt) (x e : Int) (w : World) (h : RL w v l) (hn : l.length ≤ 1000) (hl : ∀ y ∈ l, 0 ≤ y.ep) (he : 0 ≤ e) : Calls Try.prog 107 #[v, .agg #[.int .u64 x, .int .u64 e]] w fun e' w' => ∃ va vc, e' = .returned (.slice va (refAdd l ⟨x, e⟩).length vc) ∧ RLf w' w.heap.size (.slice va (refAdd l ⟨x, e⟩).length vc) (refAdd l ⟨x, e⟩) ∧ Below w.heap.size w w' := by
  obtain ⟨a1, c1, rfl⟩ := h.shape
  have hcap := h.cap
  have H1 := Lib.hid h
  have HL := Lib.hid hl
  clear h hl
  go_enter Try.func107, Try.ntmps107
  go_wp2_with fail
  go_loopw [5, 6] (fun av i wx => ∃ j : Nat, j ≤ l.length ∧ i = .int .i64 j ∧ av = .int .i64 (lastP (fAdd l e) j) ∧ Hid (RA w x e wx)) (fun _ i _ => l.length - (intOf i).toNat)
  case atStart => exact ⟨0, Nat.zero_le _, rfl, rfl, ⟨Blk.new w [.int .u64 x, .int .u64 e] 102, (Below.refl _ _).alloc (Nat.le_refl _) _⟩⟩
  case round =>
    obtain ⟨j, hj, rfl, rfl, hK⟩ := hrel
    have hle := lastP_le (fAdd l e) j
    by_cases hlj : j < l.length
    · obtain ⟨g, d1, ev, hg, q1⟩ := H1.out.at_ (by omega)
      injection ev with ev x1 x2
      subst ev
      clear x1 x2
      have c1' := (hK.out.bel.cell (p := ⟨g, j * 2 + 1, none⟩) hg).trans (q1 j hlj).2
      have B0 := hK.out.blk
      have C0 := B0.cell
      have hy := HL.out _ (List.getElem_mem hlj)
      have hf : fAdd l e j = decide (l[j].ep % 3 ≤ e % 3) := by unfold fAdd; rw [List.getD_eq_getElem?_getD, List.getElem?_eq_getElem hlj]; rfl
      have hs : lastP (fAdd l e) (j + 1) = if fAdd l e j then j + 1 else lastP (fAdd l e) j := rfl
      rw [hf] at hs
      have HS := Lib.hid hs
      have b4 : (j : Int) < l.length := by omega
      clear q1 hs hf
      generalize l[j] = y at *
      obtain ⟨yr, ye⟩ := y
      dsimp only at c1' hy HS
      go_wp2_with fail
      refine wp_region_reads (by kernel_rfl) (by kernel_rfl) ?_
      repeat (quiet_step (fail))
      refine wpQuiet_nil ?_
      intro w1 hb1
      have K1 : Hid (RA w x e w1) := ⟨hK.out.blk.below' hb1, hK.out.bel.trans (hb1.mono hK.out.bel.size)⟩
      clear hb1 hK B0 C0 c1' HL H1
      have hj5 : j < 1000 := by omega
      have ht1 : ye.tmod 3 = ye % 3 := Int.tmod_eq_emod_of_nonneg hy
      have ht2 : e.tmod 3 = e % 3 := Int.tmod_eq_emod_of_nonneg he
      by_cases hcmp : ye.tmod 3 ≤ e.tmod 3
      · rw [decide_eq_true (by omega : ye % 3 ≤ e % 3), if_pos rfl] at HS
        clear ht1 ht2
        go_wp2_with fail
        go_roundw
        case rel => exact ⟨j + 1, by omega, by go_num, by rw [HS.out]; go_num, K1⟩
        case measure => simp [intOf]; omega
      · rw [decide_eq_false (by omega : ¬ ye % 3 ≤ e % 3), if_neg (by simp)] at HS
        have hcmp' : e.tmod 3 < ye.tmod 3 := by omega
        clear ht1 ht2 hcmp
        go_wp2_with fail
        go_roundw
        case rel => exact ⟨j + 1, by omega, by go_num, by rw [HS.out], K1⟩
        case measure => simp [intOf]; omega
    · have b4 : ¬ (j : Int) < l.length := by omega
      have hjl : j = l.length := by omega
      subst hjl
      have hA : lastP (fAdd l e) l.length = addAt l ⟨x, e⟩ := rfl
      have HR : Hid (refAdd l ⟨x, e⟩ = l.take (addAt l ⟨x, e⟩) ++ [⟨x, e⟩] ++ l.drop (addAt l ⟨x, e⟩)) := rfl
      rw [hA] at hle ⊢
      clear hA
      obtain ⟨out, hout⟩ : ∃ out, refAdd l ⟨x, e⟩ = out := ⟨_, rfl⟩
      rw [hout] at HR
      have HO := Lib.hid hout
      clear hout
      generalize addAt l ⟨x, e⟩ = A at *
      obtain ⟨i0, hi, hz0, hz1, hz2⟩ := info_parts info102
      have B0 := hK.out.blk
      have C0 := B0.cell
      have zW := hK.out.bel.size
      have hb0 := B0.lt
      rcases H1.out.cases with ⟨hv, hl0⟩ | ⟨g, cap, hv, hg, hcs⟩
      · injection hv with x1 x2 x3
        subst x1 x3
        clear x2
        subst hl0
        have hA0 : A = 0 := by simpa using hle
        subst hA0
        have HO1 : Hid (refAdd [] ⟨x, e⟩ = [⟨x, e⟩]) := by show _ = _; rfl
        clear HR HO HL
        have zlo : wr.heap.size ≤ (wr.alloc (.cells #[.int .u64 x, .int .u64 e] 102)).heap.size := by simp
        go_wp2_with (at_builtin; refine wpList_append_rec (R := retR) rfl (.tmp 31) (.tmp 33) 100 102 _ 16 rfl Try.underlying100 info102 rfl (by omega) wr.heap.size 0 _ [] rfl (RowOf.nil _ _ _ _) ⟨x, e⟩ wr.heap.size rfl (Blk.new wr [.int .u64 x, .int .u64 e] 102) (by simp) zlo ?_)
        intro va6 vc6 w6 r6 hR6 hg6 hq6 hz6
        have W6 : Below wr.heap.size wr w6 := ((Below.refl _ _).alloc (Nat.le_refl _) (.cells #[.int .u64 x, .int .u64 e] 102)).grown hg6 zlo (fun q hq => by simp [Value.ownBlock] at hq)
        have W6' := hK.out.bel.trans (W6.mono zW)
        have R6 := Lib.hid hR6
        clear hR6 hg6 hq6 hz6
        go_wp2_with (at_builtin; refine wpList_append_own_none rfl (.tmp 35) (.tmp 38) 100 rfl wr.heap.size 102 i0 retR.size Try.underlying100 hi (.slice va6 1 vc6) 1 (rcells retR [(⟨x, e⟩ : Rt)]) rfl R6.out.1 rfl ?_)
        go_wp2_with fail
        go_ret
        rw [HO1.out]
        exact ⟨va6, vc6, rfl, ⟨r6, R6.out.lower zW⟩, W6'⟩
      · injection hv with x1 x2 x3
        subst x1 x3
        clear x2
        have hl1 : (l.take A).length = A := by simp; omega
        have HC1 : Hid (∀ q u, (rcells retR (l.take A))[q]? = some u → wr.cell? (Addr.add ⟨g, 0, none⟩ q) = some u) := fun q u hq => by
          rw [Addr.add_lit, Nat.zero_add]
          refine (hK.out.bel.cell (p := ⟨g, q, none⟩) hg).trans (hcs q u ?_)
          have : rcells retR l = rcells retR (l.take A) ++ rcells retR (l.drop A) := by rw [← rcells_append, List.take_append_drop]
          rw [this, List.getElem?_append_left (List.getElem?_eq_some_iff.1 hq).1]
          exact hq
        have HC2 : Hid (∀ q u, (rcells retR (l.drop A))[q]? = some u → w.cell? (Addr.add ⟨g, A * 2, none⟩ q) = some u) := fun q u hq => by
          rw [Addr.add_lit]
          refine hcs (A * 2 + q) u ?_
          have : rcells retR l = rcells retR (l.take A) ++ rcells retR (l.drop A) := by rw [← rcells_append, List.take_append_drop]
          have hlen : (rcells retR (l.take A)).length = A * 2 := by rw [rcells_length, hl1]; rfl
          rw [this, List.getElem?_append_right (by omega), hlen, Nat.add_sub_cancel_left]
          exact hq
        have hl3 : (l.drop A).length = l.length - A := by simp
        clear hcs
        generalize l.take A = P at *
        generalize l.drop A = D at *
        subst hl1
        go_wp2_with (at_builtin; refine wpList_append_own _ rfl (.tmp 26) (.tmp 29) 100 rfl wr.heap.size 102 i0 _ retR.size 16 Try.underlying100 hi hz0 hz1 hz2 rfl (by decide) (.slice none 0 0) 0 [] rfl (World.ownsRow_nil _ _ _ _) ⟨g, 0, none⟩ P.length c1 (rcells retR P) rfl (rcells_length _ _) HC1.out (rcells_oneCell _ _) (by unfold maxLen; omega) (by omega) (Nat.le_refl _) ?_)
        intro v5 w5 hown hg5 _
        have W5 : Below wr.heap.size wr w5 := (Below.refl _ _).grown hg5 (Nat.le_refl _) (fun q hq => by simp [Value.ownBlock] at hq)
        obtain ⟨va5, vc5, rfl⟩ := owns_shape hown
        obtain ⟨r5, hR5⟩ := RowOf.of_own hown
        have R5 := Lib.hid hR5
        have B5 := B0.below' W5
        have C5 := B5.cell
        have W5' := hK.out.bel.trans (W5.mono zW)
        have zlo : wr.heap.size ≤ (w5.alloc (.cells #[.int .u64 x, .int .u64 e] 102)).heap.size := by have := W5.size; simp; omega
        have zlo2 := W5.size
        have hl2 : P.length ≤ 60000 := by omega
        clear hown hg5 hR5 C0
        go_wp2_with (at_builtin; refine wpList_append_rec (R := retR) rfl (.tmp 31) (.tmp 33) 100 102 _ 16 rfl Try.underlying100 info102 rfl (by omega) wr.heap.size r5 _ P rfl (R5.out.below ((Below.refl _ _).alloc (Nat.le_refl _) (.cells #[.int .u64 x, .int .u64 e] 102))) ⟨x, e⟩ w5.heap.size rfl (Blk.new w5 [.int .u64 x, .int .u64 e] 102) hl2 zlo ?_)
        intro va6 vc6 w6 r6 hR6 hg6 hq6 hz6
        have W6 : Below wr.heap.size wr w6 := (W5.alloc zlo2 (.cells #[.int .u64 x, .int .u64 e] 102)).grown hg6 zlo (fun q hq => own_ge R5.out.1 q hq)
        have W6' := hK.out.bel.trans (W6.mono zW)
        have HC3 : Hid (∀ q u, (rcells retR D)[q]? = some u → w6.cell? (Addr.add ⟨g, P.length * 2, none⟩ q) = some u) := fun q u hq => by
          have := HC2.out q u hq
          rw [Addr.add_lit] at this ⊢
          exact (W6'.cell (p := ⟨g, P.length * 2 + q, none⟩) hg).trans this
        have R6 := Lib.hid hR6
        have zlo6 := W6.size
        clear hR6 hg6 hq6 hz6 R5 HC1 HC2 B5 C5
        have hown6 := R6.out.1
        rw [List.length_append, List.length_singleton] at hown6
        by_cases hcc : c1 = P.length
        · subst hcc
          have hD : D = [] := List.eq_nil_of_length_eq_zero (by omega)
          have HC4 : Hid (∀ q u, (rcells retR D)[q]? = some u → w6.cell? (Addr.add ⟨g, 0, none⟩ q) = some u) := fun q u hq => by rw [hD] at hq; simp [rcells] at hq
          have hl3 : D.length = 0 := by rw [hD]; rfl
          clear hD
          go_wp2_with (at_builtin; refine wpList_append_own _ rfl (.tmp 35) (.tmp 38) 100 rfl wr.heap.size 102 i0 _ retR.size 16 Try.underlying100 hi hz0 hz1 hz2 rfl (by decide) (.slice va6 (P.length + 1) vc6) (P.length + 1) (rcells retR (P ++ [(⟨x, e⟩ : Rt)])) rfl hown6 ⟨g, 0, none⟩ 0 0 (rcells retR D) rfl (by rw [rcells_length, hl3]) HC4.out (rcells_oneCell _ _) (by unfold maxLen; omega) (by omega) zlo6 ?_)
          intro v7 w7 hown7 hg7 _
          have W7 : Below wr.heap.size wr w7 := W6.grown hg7 zlo6 (fun q hq => own_ge hown6 q hq)
          have W7' := hK.out.bel.trans (W7.mono zW)
          have hown8 : w7.ownsRow wr.heap.size 102 retR.size v7 out.length (rcells retR out) := by
            have hol : (P ++ [(⟨x, e⟩ : Rt)] ++ D).length = P.length + 1 + 0 := by rw [List.length_append, List.length_append, List.length_singleton, hl3]
            rw [HR.out, hol, rcells_append]
            exact hown7
          obtain ⟨va7, vc7, rfl⟩ := owns_shape hown8
          obtain ⟨r7, hR7⟩ := RowOf.of_own hown8
          have R7 := Lib.hid hR7
          clear hown7 hown8 hR7 hg7 HR hown6 R6 HC3
          go_wp2_with fail
          go_ret
          rw [HO.out]
          exact ⟨va7, vc7, rfl, ⟨r7, R7.out.lower zW⟩, W7'⟩
        · have hcc2 : P.length < c1 := by omega
          go_wp2_with (at_builtin; refine wpList_append_own _ rfl (.tmp 35) (.tmp 38) 100 rfl wr.heap.size 102 i0 _ retR.size 16 Try.underlying100 hi hz0 hz1 hz2 rfl (by decide) (.slice va6 (P.length + 1) vc6) (P.length + 1) (rcells retR (P ++ [(⟨x, e⟩ : Rt)])) rfl hown6 ⟨g, P.length * 2, none⟩ (l.length - P.length) (c1 - P.length) (rcells retR D) rfl (by rw [rcells_length, hl3]) HC3.out (rcells_oneCell _ _) (by unfold maxLen; omega) (by omega) zlo6 ?_)
          intro v7 w7 hown7 hg7 _
          have W7 : Below wr.heap.size wr w7 := W6.grown hg7 zlo6 (fun q hq => own_ge hown6 q hq)
          have W7' := hK.out.bel.trans (W7.mono zW)
          have hown8 : w7.ownsRow wr.heap.size 102 retR.size v7 out.length (rcells retR out) := by
            have hol : (P ++ [(⟨x, e⟩ : Rt)] ++ D).length = P.length + 1 + ((l.length - P.length)) := by rw [List.length_append, List.length_append, List.length_singleton, hl3]
            rw [HR.out, hol, rcells_append]
            exact hown7
          obtain ⟨va7, vc7, rfl⟩ := owns_shape hown8
          obtain ⟨r7, hR7⟩ := RowOf.of_own hown8
          have R7 := Lib.hid hR7
          clear hown7 hown8 hR7 hg7 HR hown6 R6 HC3
          go_wp2_with fail
          go_ret
          rw [HO.out]
          exact ⟨va7, vc7, rfl, ⟨r7, R7.out.lower zW⟩, W7'⟩
end Go.Proofs.Ytgkobmmannkegaa
