/-
  The free slots (chapter 10): the second writing, sundialref10.Free.
-/
import Derived.Test.YtgkobmmannkegaaFree
namespace Go.Proofs.Ytgkobmmannkegaa
open Go Go.RowKit
set_option linter.unusedVariables false

theorem FreeRel.zero {next : Nat → Int} {S : Nat} {res : List Nat} {top : Int} {out : List Nat} (h : FreeRel next S res top out) (ht : S < top) : FreeRel next S res 0 out := by
  have hf := h.few
  obtain ⟨a, b, c⟩ := h
  refine ⟨a, b, ?_⟩
  rw [show S + 1 - out.length = (S - out.length) + 1 by omega, freeFrom, if_neg (by omega)] at c
  rw [show S + 1 - out.length = (S - out.length) + 1 by omega, freeFrom, if_neg (by omega)]
  exact c
set_option maxRecDepth 100000 in
theorem at_calls10 (w : World) (v : Value) (ws : List Int) (h : U64s w w.heap.size v ws) (hn : ws.length ≤ 60000) (at_ : Int) (h0 : -9223372036854775808 ≤ at_) (h1 : at_ < 9223372036854775808) : Calls Try.prog 178 #[v, .int .i64 at_] w fun e w' => e = .returned (.int .u64 (wget ws at_)) ∧ w = w' := by
  have hx := h
  obtain ⟨av, c, rfl, _⟩ := hx.ex
  have U0 := Lib.hid h
  clear h hx
  by_cases hat : 0 ≤ at_ ∧ at_ < ws.length
  · obtain ⟨j, rfl⟩ : ∃ j : Nat, at_ = j := ⟨at_.toNat, by omega⟩
    have hj : j < ws.length := by omega
    have hg : Hid (wget ws (j : Int) = ws[j]) := wget_nat hj
    obtain ⟨g, o1, rfl, q1⟩ := u64s_cells U0.out (by omega)
    have p0 := q1.2 j hj
    have HG : Hid (wget ws (j : Int) = ws[j]) := hg
    clear q1 hg U0 h0 h1
    generalize ws[j] = x at *
    go_enter Try.func178, Try.ntmps178
    go_wp2_with fail
    go_ret
    exact ⟨by rw [HG.out]; rfl, rfl⟩
  · have hg : Hid (wget ws at_ = 0) := wget_out hat
    by_cases h2 : at_ < 0
    · go_enter Try.func178, Try.ntmps178
      go_wp2_with fail
      go_ret
      exact ⟨by rw [hg.out]; rfl, rfl⟩
    · have h3 : (ws.length : Int) ≤ at_ := by omega
      go_enter Try.func178, Try.ntmps178
      go_wp2_with fail
      go_ret
      exact ⟨by rw [hg.out]; rfl, rfl⟩
theorem rfree_no (T S L G : Int) (h : ¬ PRight T S L G) (p : Value) (w : World) : Calls Try.prog 126 #[p, planV T S L G] w fun e w' => e = .returned (.slice none 0 0) ∧ Below w.heap.size w w' := by
  have H := Lib.hid h
  have C0 := (Blk.new w [.int .i64 T, .int .i64 S, .int .i64 L, .int .u64 G] 24).cell
  clear h
  go_enter Try.func126, Try.ntmps126
  go_wp2_with fail
  refine (rright_no T S L G H.out _).mono ?_
  rintro e w1 ⟨rfl, hb⟩
  dsimp only
  go_wp2_with fail
  go_ret
  exact ⟨rfl, Below.step _ hb⟩
section
variable (T S L : Nat) (G : Int) (hT : T ≤ 8) (hS : S ≤ 64) (hL : L ≤ 8)
include hT hS hL
set_option maxHeartbeats 2000000 in
set_option maxRecDepth 100000 in
theorem rfree_calls (hP : PRight T S L G) (v : Value) (ws : List Int) (hw : Wide ws) (w : World) (hC : U64s w w.heap.size v ws) (hn : ws.length ≤ 60000) : Calls Try.prog 126 #[v, planV T S L G] w fun e w' =>
    ∃ va vc r, e = .returned (.slice va (freeFrom (nextOf ws T L) S (S + 1) (wget ws 3 % 4294967296) []).length vc) ∧ RowOf natR 3 w' 0 r (.slice va (freeFrom (nextOf ws T L) S (S + 1) (wget ws 3 % 4294967296) []).length vc) (freeFrom (nextOf ws T L) S (S + 1) (wget ws 3 % 4294967296) []) ∧ Below w.heap.size w w' := by
  have HP := Lib.hid hP
  have HW := Lib.hid hw
  have hb0 : Below w.heap.size w (w.alloc (.cells #[.int .i64 T, .int .i64 S, .int .i64 L, .int .u64 G] 24)) := (Below.refl _ _).alloc (Nat.le_refl _) _
  have P0 := Blk.new w [.int .i64 T, .int .i64 S, .int .i64 L, .int .u64 G] 24
  have C0 := P0.cell
  have HU := Lib.hid hC
  have HSl := Lib.hid (fun i k hi h0 hk => slotP_eq T S L hT hS hL i k hi h0 hk)
  have hw3 := hw.get 3
  have HF := Lib.hid (FreeRel.start (nextOf ws T L) S (wget ws 3 % 4294967296))
  clear hP hw hC
  generalize hres : freeFrom (nextOf ws T L) S (S + 1) (wget ws 3 % 4294967296) [] = res at *
  have HRes := Lib.hid hres
  clear hres
  go_enter Try.func126, Try.ntmps126
  go_wp2_with fail
  refine (rright_yes T S L G HP.out _).mono ?_
  rintro e w1 ⟨rfl, hb1⟩
  have P1 := P0.below' hb1
  have W1 := Below.step _ hb1
  clear P0 C0 hb0 hb1
  dsimp only
  go_wp2_with fail
  have UA : ∀ W, Below w.heap.size w W → U64s W W.heap.size v ws := fun W hW => (HU.out.below ⟨hW.os, hW.tape, hW.output, hW.size, hW.block⟩).mono hW.size
  have HA := Lib.hid UA
  clear UA
  refine (at_calls10 _ _ _ (HA.out _ W1) hn 3 (by omega) (by omega)).mono ?_
  rintro e w2 ⟨rfl, rfl⟩
  have ht0 : 0 ≤ wget ws 3 % 4294967296 ∧ wget ws 3 % 4294967296 < 4294967296 := by omega
  dsimp only
  go_wp2_with fail
  generalize wget ws 3 % 4294967296 = top at *
  have e0 : wrap64 top = top := by rw [wrap64_def]; omega
  have hnil : Hid (RowOf natR 3 w1 0 w.heap.size (.slice none 0 0) []) := RowOf.nil _ _ _ _
  go_loopw [5, 6] (fun vv tv wr => ∃ (top : Int) (out : List Nat) (r : Nat) (va : Option Addr) (vc : Nat), vv = .slice va out.length vc ∧ tv = .int .i64 top ∧ (0 ≤ top ∧ top < 4294967296) ∧ Hid (FreeRel (nextOf ws T L) S res top out) ∧ Hid (RowOf natR 3 wr 0 r (.slice va out.length vc) out) ∧
    Hid (∀ k, Value.ownBlock (.slice va out.length vc) = some k → w.heap.size < k) ∧ Blk wr w.heap.size [.int .i64 T, .int .i64 S, .int .i64 L, .int .u64 G] 24 ∧ Below w.heap.size w wr) (fun vv _ _ => match vv with | .slice _ n _ => S + 1 - n | _ => 0)
  case atStart => exact ⟨top, [], w.heap.size, none, 0, rfl, by first | rfl | rw [e0], ht0, HF, hnil, fun k hk => by simp [Value.ownBlock] at hk, P1, W1⟩
  case round =>
    obtain ⟨t, out, r, va, vc, rfl, rfl, ht, hF, hO, hK, hP, hW⟩ := hrel
    clear HF hnil P1 W1 HRes
    have CP := hP.cell
    have hfew := hF.out.few
    by_cases h1 : 1 ≤ t
    · by_cases h2 : t ≤ S
      · obtain ⟨i, rfl⟩ : ∃ i : Nat, t = i := ⟨t.toNat, by omega⟩
        have h1' : 1 ≤ i := by omega
        have h2' : i ≤ S := by omega
        have HO := Lib.hid hO.out.recB
        go_wp2_with fail
        refine (has_calls _ _ _ _ _ HO.out (by omega) i).mono ?_
        rintro e w2 ⟨rfl, rfl⟩
        by_cases hm : i ∈ out
        · have e3 : out = res := hF.out.stop (fun h => h.2.2 (by simpa using hm))
          rw [decide_eq_true hm]
          subst e3
          have HR := hO
          have HWb := Lib.hid hW
          clear hm hO HO hF hfew
          go_wp2_with fail
          go_ret
          first | exact ⟨va, vc, r, rfl, HR.out, HWb.out⟩ | exact ⟨va, vc, rfl, ⟨r, HR.out⟩, HWb.out⟩
        · rw [decide_eq_false hm]
          have hF2 := hF.out.more i rfl h1' h2' hm
          have HF2 := Lib.hid hF2
          have q1 := Lib.hid (rslot_calls T S L G (i : Int) 5)
          rw [show wrap64 (4 + 3 * (T : Int) + L + ((i : Int) - 1) * (6 + L) + 5) = ((pWord T L i 5 : Nat) : Int) from HSl.out i 5 h2' h1' (by omega)] at q1
          have hwn := HW.out.get ((pWord T L i 5 : Nat) : Int)
          have hpl : pWord T L i 5 < 100000 := by
            have := pWord_lt T S L i 5 h1' h2' (by omega)
            have := pCount_le T S L hT hS hL
            omega
          have R4 := Lib.hid (hO.out.below ((Below.refl _ _).alloc (Nat.le_refl _) (.cells #[.int .i64 i] 3)))
          clear hm hF2 hO HO hF
          go_wp2_with (at_builtin; refine wpList_append_rec (R := natR) rfl (.tmp 30) (.tmp 32) 49 3 (.int .i64 0) 8 rfl Try.underlying49 info3n rfl (by omega) 0 r _ out rfl R4.out i wr.heap.size rfl (Blk.new wr [.int .i64 i] 3) (by omega) (Nat.zero_le _) ?_)
          intro va2 vc2 w5 q' hR5 hg5 hq5 hz5
          have M5 : Mod (fun p => Value.ownBlock (.slice va out.length vc) = some p) wr w5 := ((Mod.refl _ _).alloc _).grown hg5 (fun p hp _ => hp)
          have hq5' : w.heap.size < q' := by
            rcases hq5 with e | e
            · exact hK.out q' e
            · have := hW.size
              (try simp at e)
              have := hP.lt
              omega
          have hK5 : Hid (∀ k, Value.ownBlock (.slice va2 (out ++ [i]).length vc2) = some k → w.heap.size < k) := fun k hk => by
            rw [List.length_append, List.length_singleton] at hk
            have := hR5.2 k hk
            omega
          have P5 := M5.blk hP (fun e => by have := hK.out _ e; omega)
          have C5 := P5.cell
          have W5 := below_mod hW M5 hW.size (fun p hp e => by have := hK.out p e; omega)
          have R5 : Hid (RowOf natR 3 w5 0 q' (.slice va2 (out ++ [i]).length vc2) (out ++ [i])) := by
            rw [List.length_append, List.length_singleton]; exact hR5
          have hl : out.length + 1 = (out ++ [i]).length := by simp
          clear hR5 hg5 hq5 M5 R4 hP hW hK CP
          go_wp2_with fail
          refine (q1.out _).mono ?_
          rintro e w6 ⟨rfl, hb6⟩
          have P6 := P5.below' hb6
          have R6 := Lib.hid (R5.out.below hb6)
          have W6 := W5.trans (hb6.mono W5.size)
          clear P5 C5 R5 W5 hb6
          dsimp only
          go_wp2_with fail
          refine (at_calls10 _ _ _ (HA.out _ W6) hn _ (by omega) (by omega)).mono ?_
          rintro e w7 ⟨rfl, rfl⟩
          dsimp only
          by_cases h64 : wget ws ((pWord T L i 5 : Nat) : Int) ≤ 64
          · have e1 : wrap64 (wget ws ((pWord T L i 5 : Nat) : Int)) = wget ws ((pWord T L i 5 : Nat) : Int) := by rw [wrap64_def]; omega
            change Hid (FreeRel (nextOf ws T L) S res (wget ws ((pWord T L i 5 : Nat) : Int)) (out ++ [i])) at HF2
            generalize wget ws ((pWord T L i 5 : Nat) : Int) = y at *
            go_wp2_with fail
            go_roundw
            case rel => exact ⟨_, out ++ [i], q', va2, vc2, by rw [hl], rfl, by omega, HF2, R6, hK5, P6, W6⟩
            case measure => simp; omega
          · have HF3 : Hid (FreeRel (nextOf ws T L) S res 0 (out ++ [i])) := by
              have := HF2.out
              exact this.zero (show (S : Int) < wget ws ((pWord T L i 5 : Nat) : Int) by omega)
            change Hid (FreeRel (nextOf ws T L) S res (wget ws ((pWord T L i 5 : Nat) : Int)) (out ++ [i])) at HF2
            generalize wget ws ((pWord T L i 5 : Nat) : Int) = y at *
            go_wp2_with fail
            go_roundw
            case rel => exact ⟨_, out ++ [i], q', va2, vc2, by rw [hl], rfl, by omega, HF3, R6, hK5, P6, W6⟩
            case measure => simp; omega
      · have e3 : out = res := hF.out.stop (by omega)
        subst e3
        have HR := hO
        have HWb := Lib.hid hW
        clear hO hF
        go_wp2_with fail
        go_ret
        first | exact ⟨va, vc, r, rfl, HR.out, HWb.out⟩ | exact ⟨va, vc, rfl, ⟨r, HR.out⟩, HWb.out⟩
    · have e3 : out = res := hF.out.stop (by omega)
      subst e3
      have HR := hO
      have HWb := Lib.hid hW
      clear hO hF
      go_wp2_with fail
      go_ret
      first | exact ⟨va, vc, r, rfl, HR.out, HWb.out⟩ | exact ⟨va, vc, rfl, ⟨r, HR.out⟩, HWb.out⟩
end
end Go.Proofs.Ytgkobmmannkegaa
