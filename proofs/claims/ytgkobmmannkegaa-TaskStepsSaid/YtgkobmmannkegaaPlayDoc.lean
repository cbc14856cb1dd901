/-
  The document's Play (chapter 11), walked.
-/
import Derived.Test.YtgkobmmannkegaaPlayWalk
import Derived.Test.YtgkobmmannkegaaCellsPlays
namespace Go.Proofs.Ytgkobmmannkegaa
open Go Go.RowKit
set_option linter.unusedVariables false

theorem wpList_append_u64k {w : World} {ops : Array Oper} {rest : List Oper} {o : Oper} {a : Act} {Q : Exit → Act → World → Prop} (hgd : o.guard = none) (s x : Operand)
    (ho : o.op = .call { callee := .builtin .append, args := #[s, x], argTypes := #[25, 25] }) (lo : Nat) (v : Value) (l : List Int) (k m : Nat) (hk : l.length = k) (hm : m = k + 1) (hs : a.eval s = v) (hD : w.ownsRow lo 22 1 v k (u64s l)) (y : Int)
    (B : Nat) (hx : a.eval x = .slice (some ⟨B, 0, none⟩) 1 1) (hB : Blk w B [.int .u64 y] 22) (hn : l.length ≤ 60000) (hlo : lo ≤ w.heap.size)
    (h : ∀ va vc w', w'.ownsRow lo 22 1 (.slice va m vc) m (u64s (l ++ [y])) → w.grownBy w' v.ownBlock → (Value.ownBlock (.slice va m vc) = v.ownBlock ∨ Value.ownBlock (.slice va m vc) = some w.heap.size) → wpList Try.prog ops Q rest (a.put o.dst (.slice va m vc)) w') :
    wpList Try.prog ops Q (o :: rest) a w := by
  subst hk hm
  refine wpList_plain hgd fun K hK => wp_append_u64 s x ho lo v l hs hD y B hx hB hn hlo ?_
  intro va vc w' h1 h2 h3
  rw [List.length_append, List.length_singleton] at h1
  exact hK _ _ (h va vc w' h1 h2 h3)
theorem rdo7_calls (w : World) (hi : Nat) (av : Option Addr) (c n : Nat) (ws : List Int) (hnl : ws.length = n) (h : U64s w hi (.slice av n c) ws) (hhi : hi ≤ w.heap.size) (hn : n ≤ 65000) (d : D) :
    Calls Try.prog 183 #[.slice av n c, .agg #[.int .i64 d.k, .int .i64 d.at_, .int .u64 d.a, .int .u64 d.b, .int .u64 d.by_]] w fun e w' => ∃ va vc, e = .returned (.tuple #[.int .u64 (dGet ws d), .slice va n vc]) ∧ U64s w' w'.heap.size (.slice va n vc) (dDo ws d) ∧ Below w.heap.size w w' ∧ (va = av ∨ ∀ b off, va = some ⟨b, off, none⟩ → w.heap.size ≤ b) := by
  obtain ⟨k, at_, a, b, by_⟩ := d
  have b1 : Below w.heap.size w (w.alloc (.cells #[.int .i64 k, .int .i64 at_, .int .u64 a, .int .u64 b, .int .u64 by_] 31)) := (Below.refl _ _).alloc (Nat.le_refl _) _
  have B1 := Blk.new w [.int .i64 k, .int .i64 at_, .int .u64 a, .int .u64 b, .int .u64 by_] 31
  have C1 := B1.cell
  have H := Lib.hid h
  have HN := Lib.hid hnl
  clear h hnl
  by_cases hk : 1 ≤ k ∧ k ≤ 4
  · have e1 : Hid (dGet ws ⟨k, at_, a, b, by_⟩ = wget ws at_) := if_pos hk
    have e2 : Hid (dDo ws ⟨k, at_, a, b, by_⟩ = opDo ws k at_ a b) := if_pos hk
    have h1 : decide (k < 1) = false := by simp; omega
    have h2 : decide (4 < k) = false := by simp; omega
    have H1 := H.out.below b1
    rw [← HN.out] at H1
    have R := rdo_calls _ hi av c ws H1 (by rw [World.size_alloc]; omega) (by rw [HN.out]; exact hn) k at_ a b
    rw [HN.out] at R
    have RH := Lib.hid R
    clear R H1 hk
    go_enter Try.func183, Try.ntmps183
    go_wp2_with fail
    refine RH.out.mono ?_
    rintro e w2 ⟨va, vc, rfl, hU, hb, hva⟩
    rw [opDo_length, HN.out] at hU
    rw [opDo_length, HN.out]
    go_wp2_with fail
    refine bodyPost_ret (v := .tuple #[.int .u64 (wget ws at_), .slice va n vc]) (by simp [results, Try.results183, go_sem]) rfl ⟨va, vc, by rw [e1.out], by rw [e2.out]; exact hU, b1.trans (hb.mono b1.size), hva.imp id (fun h b off e => by have := h b off e; rw [World.size_alloc] at this; omega)⟩
  · have e1 : Hid (dGet ws ⟨k, at_, a, b, by_⟩ = 0) := if_neg hk
    have e2 : Hid (dDo ws ⟨k, at_, a, b, by_⟩ = ws) := if_neg hk
    have U1 := Lib.hid ((H.out.below b1).mono (hi' := (w.alloc (.cells #[.int .i64 k, .int .i64 at_, .int .u64 a, .int .u64 b, .int .u64 by_] 31)).heap.size) (by rw [World.size_alloc]; omega))
    by_cases h1 : k < 1
    · clear hk
      go_enter Try.func183, Try.ntmps183
      go_wp2_with fail
      refine bodyPost_ret (v := .tuple #[.int .u64 0, .slice av n c]) (by simp [results, Try.results183, go_sem]) rfl ⟨av, c, by rw [e1.out], by rw [e2.out]; exact U1.out, b1, .inl rfl⟩
    · have h2 : decide (4 < k) = true := by simp; omega
      clear hk
      go_enter Try.func183, Try.ntmps183
      go_wp2_with fail
      refine bodyPost_ret (v := .tuple #[.int .u64 0, .slice av n c]) (by simp [results, Try.results183, go_sem]) rfl ⟨av, c, by rw [e1.out], by rw [e2.out]; exact U1.out, b1, .inl rfl⟩
theorem U64s.modS {w w' : World} {hi : Nat} {va : Option Addr} {n c : Nat} {ws : List Int} {S : Nat → Prop} (h : U64s w hi (.slice va n c) ws) (hm : Mod S w w') (hne : 0 < ws.length → ∀ b off, va = some ⟨b, off, none⟩ → ¬ S b) : U64s w' hi (.slice va n c) ws := by
  obtain ⟨a, cap, hv, hc⟩ := h.ex
  refine ⟨a, cap, hv, fun h0 => ?_⟩
  obtain ⟨b, off, ha, hb, hcs⟩ := hc h0
  cases hv
  refine ⟨b, off, ha, hb, fun j hj => ?_⟩
  rw [← hcs j hj]
  exact hm.cell (a := ⟨b, off + j, none⟩) (World.block_lt_of_cell? w _ (hcs j hj)) (hne h0 b off ha)
theorem U64s.blk_lt {w : World} {hi : Nat} {va : Option Addr} {n c : Nat} {ws : List Int} (h : U64s w hi (.slice va n c) ws) (h0 : 0 < ws.length) (b off : Nat) (e : va = some ⟨b, off, none⟩) : b < hi := by
  obtain ⟨a, cap, hv, hc⟩ := h.ex
  obtain ⟨b', off', ha, hb, hcs⟩ := hc h0
  cases hv
  rw [e] at ha
  injection ha with ha
  injection ha with ha
  omega
/-- The list of words lies elsewhere than the list of what was found. -/
def Elsewhere (L : Nat) (va oa : Option Addr) (k oc : Nat) : Prop := 0 < L → ∀ b off, va = some ⟨b, off, none⟩ → ∀ q, Value.ownBlock (.slice oa k oc) = some q → b ≠ q
set_option maxHeartbeats 4000000 in
set_option maxRecDepth 100000 in
theorem rplay_calls (w : World) (av : Option Addr) (c L : Nat) (ws : List Int) (hL : ws.length = L) (sa : Option Addr) (sc S g : Nat) (ds : List D) (hSn : ds.length = S) (most : Int) (h : U64s w w.heap.size (.slice av L c) ws) (hD : DeedsB w g (.slice sa S sc) ds) (hn : L ≤ 65000) (hs : S ≤ 60000) :
    Calls Try.prog 131 #[.slice av L c, .slice sa S sc, .int .i64 most] w fun e w' => ∃ va vc oa oc M, e = .returned (.tuple #[.slice oa M oc, .slice va L vc]) ∧ ((playL ds ws).take most.toNat).length = M ∧ U64s w' w'.heap.size (.slice oa M oc) (((playL ds ws).take most.toNat).map Prod.snd) ∧ U64s w' w'.heap.size (.slice va L vc) (playW ds ws M) ∧ Below w.heap.size w w' := by
  have HU := Lib.hid h
  have HD := Lib.hid hD
  have HL := Lib.hid hL
  have HS := Lib.hid hSn
  clear h hD hL hSn
  go_enter Try.func131, Try.ntmps131
  go_wp2_with fail
  go_loopw [0, 8, 9] (fun lv ov i wr => ∃ (k : Nat) (va : Option Addr) (vc : Nat) (oa : Option Addr) (oc : Nat), i = .int .i64 k ∧ k ≤ S ∧ k ≤ most.toNat ∧ lv = .slice va L vc ∧ ov = .slice oa k oc ∧ Hid (U64s wr wr.heap.size (.slice va L vc) (playW ds ws k)) ∧ Hid (wr.ownsRow w.heap.size 22 1 (.slice oa k oc) k (u64s (((playL ds ws).take k).map Prod.snd))) ∧ Hid (Elsewhere L va oa k oc) ∧ Below w.heap.size w wr) (fun _ _ i _ => S - (intOf i).toNat)
  case atStart => exact ⟨0, av, c, none, 0, rfl, by omega, by omega, rfl, rfl, by rw [playW_zero]; exact HU, World.ownsRow_nil _ _ _ _, fun _ b off _ q hq => by simp [Value.ownBlock] at hq, Below.refl _ _⟩
  case round =>
    clear HU
    obtain ⟨k, va, vc, oa, oc, rfl, hk1, hk2, rfl, rfl, hU, hO, hE, hW⟩ := hrel
    by_cases hgo : k < S ∧ (k : Int) < most
    · have hlt : k < ds.length := by rw [HS.out]; exact hgo.1
      obtain ⟨a', c', hv, _, hx⟩ := HD.out.ex
      rw [HS.out] at hv
      cases hv
      obtain ⟨off, rfl, hcs⟩ := hx (by omega)
      have gl : g < w.heap.size := HD.out.lt (by omega)
      have f0 : wr.cell? ⟨g, off + k * 5, none⟩ = _ := (hW.cell (p := ⟨g, off + k * 5, none⟩) gl).trans (hcs k hlt 0 (by omega))
      have f1 := (hW.cell (p := ⟨g, off + k * 5 + 1, none⟩) gl).trans (hcs k hlt 1 (by omega))
      have f2 := (hW.cell (p := ⟨g, off + k * 5 + 2, none⟩) gl).trans (hcs k hlt 2 (by omega))
      have f3 := (hW.cell (p := ⟨g, off + k * 5 + 3, none⟩) gl).trans (hcs k hlt 3 (by omega))
      have f4 := (hW.cell (p := ⟨g, off + k * 5 + 4, none⟩) gl).trans (hcs k hlt 4 (by omega))
      have E1 := Lib.hid (playL_more (ws := ws) hlt)
      have E2 := Lib.hid (playW_succ (ws := ws) hlt)
      have hwl : (playW ds ws k).length = L := by rw [playW_length, HL.out]
      generalize playW ds ws k = wk at *
      generalize ds[k] = d at *
      have hl3 : (((playL ds ws).take k).map Prod.snd).length = k := by simp [playL_length]; omega
      generalize hpre : (playL ds ws).take k = pre at *
      have HL3 := Lib.hid hl3
      have HWL := Lib.hid hwl
      have hb1 : decide ((k : Int) < (S : Int)) = true := by simp; omega
      have hb2 : decide ((k : Int) < most) = true := by simp; omega
      have hgo1 : (k : Int) < (S : Int) := by omega
      replace f0 : wr.cell? ⟨g, off + k * 5, none⟩ = some (.int .i64 d.k) := f0
      replace f1 : wr.cell? ⟨g, off + k * 5 + 1, none⟩ = some (.int .i64 d.at_) := f1
      replace f2 : wr.cell? ⟨g, off + k * 5 + 2, none⟩ = some (.int .u64 d.a) := f2
      replace f3 : wr.cell? ⟨g, off + k * 5 + 3, none⟩ = some (.int .u64 d.b) := f3
      replace f4 : wr.cell? ⟨g, off + k * 5 + 4, none⟩ = some (.int .u64 d.by_) := f4
      clear hcs hx hl3 hwl hpre
      go_wp2_with fail
      refine (rdo7_calls wr wr.heap.size va vc L wk HWL.out hU.out (Nat.le_refl _) hn d).mono ?_
      rintro e w2 ⟨va2, vc2, rfl, hU2, hb2', hva2⟩
      have O2 := Lib.hid ((ownsRow_mod hO.out (Mod.of_below (S := fun _ => False) hb2') (fun _ _ => id)).alloc (.cells #[.int .u64 (dGet wk d)] 22))
      have U2 := Lib.hid (hU2.below ((Below.refl _ _).alloc (Nat.le_refl _) (.cells #[.int .u64 (dGet wk d)] 22)))
      have W2 := hW.trans (hb2'.mono hW.size)
      have W3 := W2.alloc W2.size (.cells #[.int .u64 (dGet wk d)] 22)
      have hdl : (dDo wk d).length = L := by rw [dDo_length, HWL.out]
      have E2' : Hid (Elsewhere L va2 oa k oc) := by
        intro hL0 b off' e q hq
        rcases hva2 with rfl | h
        · exact hE.out hL0 b off' e q hq
        · have h1 := h b off' e
          have h2 := World.ownsRow.lt hO.out q hq
          omega
      have BN := Lib.hid (Blk.new w2 [.int .u64 (dGet wk d)] 22)
      have HDL := Lib.hid hdl
      clear f0 f1 f2 f3 f4 hU hO hE hU2 hva2 hdl
      go_wp2_with (at_builtin; refine wpList_append_u64k rfl (.tmp 32) (.tmp 34) rfl w.heap.size _ (pre.map Prod.snd) k (k + 1) HL3.out rfl rfl O2.out (dGet wk d) w2.heap.size rfl BN.out (by rw [HL3.out]; omega) W3.size ?_)
      intro oa2 oc2 w4 hO4 hg4 hv4
      have hO5 : w4.ownsRow w.heap.size 22 1 (.slice oa2 (k + 1) oc2) (k + 1) (u64s (((playL ds ws).take (k + 1)).map Prod.snd)) := by
        rw [E1.out, List.map_append]
        simpa [u64s] using hO4
      have U4 : Hid (U64s w4 w4.heap.size (.slice va2 L vc2) (playW ds ws (k + 1))) := by
        show U64s _ _ _ _
        rw [E2.out]
        refine (U2.out.modS (S := fun q => Value.ownBlock (.slice oa k oc) = some q) ((Mod.refl _ _).grown hg4 (fun q hq _ => hq)) (fun h0 b off' e hs => E2'.out (by rw [← HDL.out]; exact h0) b off' e _ hs rfl)).mono ?_
        have := hg4.size
        rw [World.size_alloc] at this
        omega
      have E4 : Hid (Elsewhere L va2 oa2 (k + 1) oc2) := by
        intro hL0 b off' e q hq
        rcases hv4 with h | h
        · exact E2'.out hL0 b off' e q (by rw [← h]; exact hq)
        · rw [h] at hq
          injection hq with hq
          have := U2.out.blk_lt (by rw [HDL.out]; exact hL0) b off' e
          omega
      have W4 := W3.grown hg4 W3.size (fun q hq => own_ge O2.out q hq)
      have O4 := Lib.hid hO5
      clear hO4 hO5 hg4 hv4 O2 U2 E2' BN W2 W3 hb2'
      go_wp2_with fail
      go_roundw
      case rel => exact ⟨k + 1, va2, vc2, oa2, oc2, by go_num, by omega, by omega, rfl, rfl, U4, O4, E4, W4⟩
      case measure => simp [intOf]; omega
    · have hk4 : k = S ∨ k = most.toNat := by omega
      have hlen : (playL ds ws).length = S := by rw [playL_length, HS.out]
      have ht : (playL ds ws).take most.toNat = (playL ds ws).take k := by
        rcases hk4 with h | h
        · rw [List.take_of_length_le (by omega), List.take_of_length_le (by omega)]
        · rw [h]
      have FIN : Hid (((playL ds ws).take most.toNat).length = k ∧ U64s wr wr.heap.size (.slice oa k oc) (((playL ds ws).take most.toNat).map Prod.snd)) := by
        refine ⟨by rw [ht, List.length_take, hlen]; omega, ?_⟩
        rw [ht]
        have h1 : (((playL ds ws).take k).map Prod.snd).length = k := by rw [List.length_map, List.length_take, hlen]; omega
        have := own_u64s (hi := wr.heap.size) (ws := ((playL ds ws).take k).map Prod.snd) (v := .slice oa k oc) (by rw [h1]; exact hO.out) (Nat.le_refl _)
        exact this
      clear ht hlen hk4 hO hE
      by_cases hkS : k < S
      · have hb1 : decide ((k : Int) < (S : Int)) = true := by simp; omega
        have hb2 : decide ((k : Int) < most) = false := by simp; omega
        clear hgo
        go_wp2_with fail
        exact bodyPost_ret (v := .tuple #[.slice oa k oc, .slice va L vc]) (by simp [results, Try.results131, go_sem]) rfl ⟨va, vc, oa, oc, k, rfl, FIN.out.1, FIN.out.2, hU.out, hW⟩
      · have hb1 : decide ((k : Int) < (S : Int)) = false := by simp; omega
        clear hgo
        go_wp2_with fail
        exact bodyPost_ret (v := .tuple #[.slice oa k oc, .slice va L vc]) (by simp [results, Try.results131, go_sem]) rfl ⟨va, vc, oa, oc, k, rfl, FIN.out.1, FIN.out.2, hU.out, hW⟩
end Go.Proofs.Ytgkobmmannkegaa
