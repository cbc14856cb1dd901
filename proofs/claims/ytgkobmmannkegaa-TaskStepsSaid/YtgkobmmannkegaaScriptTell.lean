/-
  A script: what Tell does to it.
-/
import Derived.Test.YtgkobmmannkegaaScript
namespace Go.Proofs.Ytgkobmmannkegaa
open Go Go.RowKit
set_option linter.unusedVariables false

theorem wp_append_u64 {w : World} {o : Oper} {a : Act} {K : Act → World → Prop} {Q : Exit → Act → World → Prop} (s x : Operand)
    (ho : o.op = .call { callee := .builtin .append, args := #[s, x], argTypes := #[25, 25] }) (lo : Nat) (v : Value) (l : List Int) (hs : a.eval s = v) (hD : w.ownsRow lo 22 1 v l.length (u64s l)) (y : Int)
    (B : Nat) (hx : a.eval x = .slice (some ⟨B, 0, none⟩) 1 1) (hB : Blk w B [.int .u64 y] 22) (hn : l.length ≤ 60000) (hlo : lo ≤ w.heap.size)
    (h : ∀ va vc w', w'.ownsRow lo 22 1 (.slice va (l.length + 1) vc) (l ++ [y]).length (u64s (l ++ [y])) → w.grownBy w' v.ownBlock → (Value.ownBlock (.slice va (l.length + 1) vc) = v.ownBlock ∨ Value.ownBlock (.slice va (l.length + 1) vc) = some w.heap.size) → K (a.put o.dst (.slice va (l.length + 1) vc)) w') :
    o.wp Try.prog a w K Q := by
  obtain ⟨i0, hi, hz0, hz1, hz2⟩ := info_parts info22
  obtain ⟨v', w', hr, h2, h3, _, h5⟩ := run_append_own_at (P := Try.prog) w lo 25 o.type 22 i0 _ 1 8 Try.underlying25 hi hz0 hz1 hz2 rfl (by decide) v l.length (u64s l) hD ⟨B, 0, none⟩ 1 1 [.int .u64 y] rfl
    (fun j u hu => by rw [Addr.add_lit, Nat.zero_add, hB.cell]; exact hu) (by intro u hu; simp at hu; subst hu; rfl) (by unfold maxLen; omega) (by omega) hlo
  obtain ⟨va, vc, rfl⟩ := owns_shape h2
  have h2' : w'.ownsRow lo 22 1 (.slice va (l.length + 1) vc) (l ++ [y]).length (u64s (l ++ [y])) := by
    rw [List.length_append, List.length_singleton, show u64s (l ++ [y]) = u64s l ++ [.int .u64 y] by simp [u64s]]
    exact h2
  unfold Oper.wp execOp
  simp only [ho, resolve, invoke, builtin, Sem.run_bind, Sem.run_pure, Result.andThen_ok, List.map_toArray, List.map_cons, List.map_nil, hs, hx, hr]
  exact h va vc w' h2' h3 h5
theorem step_append_u64 {w : World} {ops : Array Oper} {o : Oper} {a : Act} {K : Act → World → Prop} {Q : Exit → Act → World → Prop} {E : Prop} (hgd : o.guard = none) (s x : Operand)
    (ho : o.op = .call { callee := .builtin .append, args := #[s, x], argTypes := #[25, 25] }) (lo : Nat) (v : Value) (l : List Int) (hs : a.eval s = v) (hD : w.ownsRow lo 22 1 v l.length (u64s l)) (y : Int)
    (B : Nat) (hx : a.eval x = .slice (some ⟨B, 0, none⟩) 1 1) (hB : Blk w B [.int .u64 y] 22) (hn : l.length ≤ 60000) (hlo : lo ≤ w.heap.size)
    (h : ∀ va vc w', w'.ownsRow lo 22 1 (.slice va (l.length + 1) vc) (l ++ [y]).length (u64s (l ++ [y])) → w.grownBy w' v.ownBlock → (Value.ownBlock (.slice va (l.length + 1) vc) = v.ownBlock ∨ Value.ownBlock (.slice va (l.length + 1) vc) = some w.heap.size) → K (a.put o.dst (.slice va (l.length + 1) vc)) w') :
    if Region.wanted o (yielded ops a.tmps) = true then Oper.wp Try.prog o a w K Q else E := by
  have hw : Region.wanted o (yielded ops a.tmps) = true := by simp [Region.wanted, hgd]
  rw [if_pos hw]
  exact wp_append_u64 s x ho lo v l hs hD y B hx hB hn hlo h
theorem own_ne {w : World} {lo : Nat} {e T : TypeId} {size : Nat} {v : Value} {n b : Nat} {xs cs : List Value} (h : w.ownsRow lo e size v n xs) (hB : Blk w b cs T) (hT : T ≠ e) : ∀ k, v.ownBlock = some k → k ≠ b := by
  rintro k hk rfl
  rcases h.2 with ⟨rfl, _⟩ | ⟨q, cap, cur, rfl, _, hh, _⟩
  · simp [Value.ownBlock] at hk
  · simp [Value.ownBlock] at hk
    subst hk
    unfold Blk at hB
    rw [hB] at hh
    injection hh with hh
    injection hh with _ hh
    exact hT hh
set_option maxRecDepth 100000 in
theorem script_tellN (w : World) (b g r : Nat) (found : List Int) (x : Int) (h : ScriptAt w b g r [] found) :
    Calls Try.prog 87 #[.pointer (some ⟨b, 0, none⟩), .int .u64 x] w fun e w' => e = .returned (.tuple #[]) ∧ Below w.heap.size w w' := by
  have H := Lib.hid h
  clear h
  go_enter Try.func87, Try.ntmps87
  go_wp2_with fail
  refine (script_nextN _ _ _ _ _ H.out).mono ?_
  rintro e w1 ⟨rfl, hb⟩
  go_wp2_with fail
  go_end0
  exact ⟨rfl, hb.alloc hb.size _⟩
theorem tell_done {w W2 w3 : World} {b g r : Nat} {d : D} {rest : List D} {found : List Int} {x : Int} {lv fv lv' : Value} {va : Option Addr} {vc : Nat} (hb1 : Below w.heap.size w W2) (H1 : ScriptAt W2 b g r (d :: rest) found) (hl : r < w.heap.size ∧ b < w.heap.size)
    (hD : DeedsB W2 g lv' rest) (hk : ∀ k, fv.ownBlock = some k → k = r) (hO3 : w3.ownsRow 0 22 1 (.slice va (found.length + 1) vc) (found ++ [x]).length (u64s (found ++ [x])))
    (hg3 : (W2.alloc (.cells #[.int .u64 x] 22)).drew.grownBy w3 fv.ownBlock)
    (hv3 : Value.ownBlock (.slice va (found.length + 1) vc) = fv.ownBlock ∨ Value.ownBlock (.slice va (found.length + 1) vc) = some (W2.alloc (.cells #[.int .u64 x] 22)).drew.heap.size) (B3 : Blk w3 b [lv, fv] 179) :
    ∃ r', ScriptAt ((w3.setCell ⟨b, 0, none⟩ lv').setCell ⟨b, 1, none⟩ (.slice va (found.length + 1) vc)) b g r' rest (found ++ [x]) ∧ (r' = r ∨ w.heap.size ≤ r') ∧
      Mod (fun k => k = b ∨ k = r) w ((w3.setCell ⟨b, 0, none⟩ lv').setCell ⟨b, 1, none⟩ (.slice va (found.length + 1) vc)) := by
  have M1 : Mod (fun k => k = b ∨ k = r) W2 w3 := (((Mod.refl _ _).alloc _).drew).grown hg3 (fun k h _ => .inr (hk k h))
  have ho := Only.set2 w3 b lv' (.slice va (found.length + 1) vc)
  have M2 : Mod (fun k => k = b ∨ k = r) W2 ((w3.setCell ⟨b, 0, none⟩ lv').setCell ⟨b, 1, none⟩ (.slice va (found.length + 1) vc)) := M1.trans' (ho.mod.mono (fun k _ e => .inl e))
  have hz := hb1.size
  have z3 := M1.size
  have z3' : W2.heap.size + 1 ≤ w3.heap.size := by have := hg3.size; simpa using this
  have B4 := B3.set2 lv' (.slice va (found.length + 1) vc)
  have hne := own_ne hO3 B3 (by decide)
  have hO4 := ownsRow_mod hO3 (Mod.refl (fun _ => False) w3) (fun _ _ => id)
  have O5 : ((w3.setCell ⟨b, 0, none⟩ lv').setCell ⟨b, 1, none⟩ (.slice va (found.length + 1) vc)).ownsRow 0 22 1 (.slice va (found.length + 1) vc) (found ++ [x]).length (u64s (found ++ [x])) := by
    refine ⟨hO3.1, ?_⟩
    rcases hO3.2 with hn | ⟨q, cap, cur, hv, h0, hh, rest⟩
    · exact .inl hn
    · refine .inr ⟨q, cap, cur, hv, h0, ?_, rest⟩
      rw [ho.block q (hne q (by rw [hv]; rfl))]
      exact hh
  have hlt := World.ownsRow.lt O5
  have hM : Mod (fun k => k = b ∨ k = r) w ((w3.setCell ⟨b, 0, none⟩ lv').setCell ⟨b, 1, none⟩ (.slice va (found.length + 1) vc)) := ⟨M2.os.trans hb1.os, M2.tape.trans hb1.tape, M2.output.trans hb1.output, Nat.le_trans hz M2.size, fun k h hn => (M2.block k (by omega) hn).trans (hb1.block k h)⟩
  have hap := H1.apart
  have hgn : g ≠ r := hap.2 (by simp)
  have D5 := hD.mod M2 (by omega)
  have hgs : 0 < rest.length → g < W2.heap.size := fun h => hD.lt h
  have key : ∀ r', (∀ k, Value.ownBlock (.slice va (found.length + 1) vc) = some k → k = r') → (0 < rest.length → g ≠ r') → r' < ((w3.setCell ⟨b, 0, none⟩ lv').setCell ⟨b, 1, none⟩ (.slice va (found.length + 1) vc)).heap.size → (r' = r ∨ w.heap.size ≤ r') → ∃ r', ScriptAt ((w3.setCell ⟨b, 0, none⟩ lv').setCell ⟨b, 1, none⟩ (.slice va (found.length + 1) vc)) b g r' rest (found ++ [x]) ∧ (r' = r ∨ w.heap.size ≤ r') ∧
      Mod (fun k => k = b ∨ k = r) w ((w3.setCell ⟨b, 0, none⟩ lv').setCell ⟨b, 1, none⟩ (.slice va (found.length + 1) vc)) :=
    fun r' h1 h2 h3 h4 => ⟨r', ⟨⟨_, _, B4, D5, O5, h1⟩, ⟨hap.1, h2⟩, h3⟩, h4, hM⟩
  rcases hv3 with e | e
  · exact key r (fun k h => hk k (by rw [← e]; exact h)) (fun _ => hgn) (by simp; omega) (.inl rfl)
  · refine key (W2.heap.size + 1) (fun k h => ?_) (fun h => by have := hgs h; omega) ?_ (.inr (by omega))
    · rw [e] at h; simp at h; omega
    · exact (hlt _ (by rw [e]; simp)).2
set_option maxHeartbeats 4000000 in
set_option maxRecDepth 100000 in
theorem script_tellY (w : World) (b g r : Nat) (d : D) (rest : List D) (found : List Int) (x : Int) (h : ScriptAt w b g r (d :: rest) found) (hn : found.length ≤ 60000) :
    Calls Try.prog 87 #[.pointer (some ⟨b, 0, none⟩), .int .u64 x] w fun e w' => e = .returned (.tuple #[]) ∧ ∃ r', ScriptAt w' b g r' rest (found ++ [x]) ∧ (r' = r ∨ w.heap.size ≤ r') ∧ Mod (fun k => k = b ∨ k = r) w w' := by
  have H := Lib.hid h
  clear h
  go_enter Try.func87, Try.ntmps87
  go_wp2_with fail
  refine (script_nextY _ _ _ _ _ _ _ H.out).mono ?_
  rintro e w1 ⟨rfl, hb⟩
  have hb1 := hb.alloc hb.size (.cells #[.int .i64 d.k, .int .i64 d.at_, .int .u64 d.a, .int .u64 d.b, .int .u64 d.by_] 31)
  have H1 := Lib.hid (H.out.below hb1)
  obtain ⟨lv, fv, hB, hD, hO, hk⟩ := H1.out.ex
  obtain ⟨off, c, rfl, hc, _⟩ := hD.five
  obtain ⟨fa, fc, rfl⟩ := owns_shape hO
  have C := hB.cell
  have F := hB.frozen
  have HO := Lib.hid hO
  have HK := Lib.hid hk
  have HD := Lib.hid hD
  have HB := Lib.hid hB
  have HB1 := Lib.hid hb1
  have HN := Lib.hid (own_ne hO hB (by decide))
  have b1 : (1 : Int) ≤ (rest.length : Int) + 1 := by omega
  have b2 : (rest.length : Int) + 1 ≤ (c : Int) := by omega
  have b3 : (1 : Int) ≤ (c : Int) := by omega
  clear hD hO hk hb hB hb1
  have HL : Hid (r < w.heap.size ∧ b < w.heap.size) := ⟨H.out.lt.2.1, H.out.lt.1⟩
  by_cases hc1 : c = 1
  · subst hc1
    have hr0 : rest = [] := List.eq_nil_of_length_eq_zero (by omega)
    subst hr0
    go_wp2_with fail
    generalize hW2 : w1.alloc (.cells #[.int .i64 d.k, .int .i64 d.at_, .int .u64 d.a, .int .u64 d.b, .int .u64 d.by_] 31) = W2 at *
    go_region_law ((refine step_append_u64 (by rfl) (.tmp 22) (.tmp 24) (by rfl) 0 (.slice fa found.length fc) found (by rfl) ((HO.out.alloc _).drew) x W2.heap.size (by rfl) ((Blk.new W2 [.int .u64 x] 22).drew) hn (Nat.zero_le _) ?_; intro va vc w3 hO3 hg3 hv3; have B3 := grown_blk hg3 ((HB.out.alloc _).drew) HN.out; have C3 := B3.cell; have F3 := B3.frozen))
    all_goals
      go_end0
      exact ⟨rfl, tell_done HB1.out H1.out HL.out (HD.out.rest (fun off h h1 => absurd rfl h1)) HK.out hO3 hg3 hv3 B3⟩
  · go_wp2_with fail
    generalize hW2 : w1.alloc (.cells #[.int .i64 d.k, .int .i64 d.at_, .int .u64 d.a, .int .u64 d.b, .int .u64 d.by_] 31) = W2 at *
    go_region_law ((refine step_append_u64 (by rfl) (.tmp 22) (.tmp 24) (by rfl) 0 (.slice fa found.length fc) found (by rfl) ((HO.out.alloc _).drew) x W2.heap.size (by rfl) ((Blk.new W2 [.int .u64 x] 22).drew) hn (Nat.zero_le _) ?_; intro va vc w3 hO3 hg3 hv3; have B3 := grown_blk hg3 ((HB.out.alloc _).drew) HN.out; have C3 := B3.cell; have F3 := B3.frozen))
    all_goals
      go_end0
      exact ⟨rfl, tell_done HB1.out H1.out HL.out (HD.out.rest (fun off h h1 => by cases h; rfl)) HK.out hO3 hg3 hv3 B3⟩
end Go.Proofs.Ytgkobmmannkegaa
