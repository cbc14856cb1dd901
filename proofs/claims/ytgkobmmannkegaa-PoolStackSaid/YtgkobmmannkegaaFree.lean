/-
  The free slots (chapter 10): blank.Free.
-/
import Derived.Test.YtgkobmmannkegaaNats
import Derived.WalkMore
namespace Go.Proofs.Ytgkobmmannkegaa
open Go Go.RowKit
set_option linter.unusedVariables false

theorem info3n : (Try.prog.info? 3).map (fun i => (i.zero, i.size, i.bytes)) = some (some (.int .i64 0), natR.size, 8) := by kernel_rfl
/-- A word of 64 bits each. -/
def Wide (ws : List Int) : Prop := ∀ x ∈ ws, 0 ≤ x ∧ x < 18446744073709551616
theorem Wide.get {ws : List Int} (h : Wide ws) (at_ : Int) : 0 ≤ wget ws at_ ∧ wget ws at_ < 18446744073709551616 := by
  unfold wget
  split
  · rename_i hh
    have h2 : at_.toNat < ws.length := by omega
    have := h (ws[at_.toNat]) (List.getElem_mem _)
    simpa [List.getD, h2] using this
  · omega
abbrev nextOf (ws : List Int) (T L : Nat) (i : Nat) : Int := wget ws (pWord T L i 5 : Nat)
theorem free_no (T S L G : Int) (h : ¬ PRight T S L G) (p : Value) (w : World) : Calls Try.prog 123 #[p, planV T S L G] w fun e w' => e = .returned (.slice none 0 0) ∧ Below w.heap.size w w' := by
  have H := Lib.hid h
  have C0 := (Blk.new w [.int .i64 T, .int .i64 S, .int .i64 L, .int .u64 G] 24).cell
  clear h
  go_enter Try.func123, Try.ntmps123
  go_wp2_with fail
  go_step3
  go_wp2_with fail
  refine (right_no T S L G H.out _).mono ?_
  rintro e w1 ⟨rfl, hb⟩
  go_wp2_with fail
  rw [Exit.noGoto_ret]
  go_ret
  exact ⟨rfl, Below.step _ hb⟩
section
variable (T S L : Nat) (G : Int) (hT : T ≤ 8) (hS : S ≤ 64) (hL : L ≤ 8)
include hT hS hL
set_option maxHeartbeats 2000000 in
set_option maxRecDepth 100000 in
theorem free_calls (hP : PRight T S L G) (b g : Nat) (ws : List Int) (hw : Wide ws) (w : World) (hC : CellsAt w b g ws) : Calls Try.prog 123 #[.pointer (some ⟨b, 0, none⟩), planV T S L G] w fun e w' =>
    ∃ va vc r, e = .returned (.slice va (freeFrom (nextOf ws T L) S (S + 1) (wget ws 3 % 4294967296) []).length vc) ∧ RowOf natR 3 w' 0 r (.slice va (freeFrom (nextOf ws T L) S (S + 1) (wget ws 3 % 4294967296) []).length vc) (freeFrom (nextOf ws T L) S (S + 1) (wget ws 3 % 4294967296) []) ∧ Below w.heap.size w w' := by
  have HP := Lib.hid hP
  have HW := Lib.hid hw
  have hb0 : Below w.heap.size w (w.alloc (.cells #[.int .i64 T, .int .i64 S, .int .i64 L, .int .u64 G] 24)) := (Below.refl _ _).alloc (Nat.le_refl _) _
  have P0 := Blk.new w [.int .i64 T, .int .i64 S, .int .i64 L, .int .u64 G] 24
  have C0 := P0.cell
  have D0 := Lib.hid (hC.below hb0)
  have HSl := Lib.hid (fun i k hi h0 hk => slotP_eq T S L hT hS hL i k hi h0 hk)
  have hw3 := hw.get 3
  have HF := Lib.hid (FreeRel.start (nextOf ws T L) S (wget ws 3 % 4294967296))
  have hlc := hC.lt
  clear hP hw hC hb0
  generalize hres : freeFrom (nextOf ws T L) S (S + 1) (wget ws 3 % 4294967296) [] = res at *
  have HRes := Lib.hid hres
  clear hres
  go_enter Try.func123, Try.ntmps123
  go_wp2_with fail
  go_step3
  go_wp2_with fail
  refine (right_yes T S L G HP.out _).mono ?_
  rintro e w1 ⟨rfl, hb1⟩
  have P1 := P0.below' hb1
  have D1 := Lib.hid (D0.out.below hb1)
  have W1 := Below.step _ hb1
  clear P0 C0 D0 hb1
  go_wp2_with fail
  refine (cells_load _ _ _ _ D1.out _).mono ?_
  rintro e w2 ⟨rfl, rfl⟩
  go_wp2_with fail
  refine (low_calls _ hw3.1 hw3.2 _).mono ?_
  rintro e w2 ⟨rfl, rfl⟩
  have ht0 : 0 ≤ wget ws 3 % 4294967296 ∧ wget ws 3 % 4294967296 < 18446744073709551616 := by omega
  generalize wget ws 3 % 4294967296 = top at *
  go_wp2_with fail
  go_step3
  go_wp2_with fail
  have hnil : Hid (RowOf natR 3 w1 0 w.heap.size (.slice none 0 0) []) := RowOf.nil _ _ _ _
  go_loopw [5, 6] (fun vv tv wr => ∃ (top : Int) (out : List Nat) (r : Nat) (va : Option Addr) (vc : Nat), vv = .slice va out.length vc ∧ tv = .int .u64 top ∧ (0 ≤ top ∧ top < 18446744073709551616) ∧ Hid (FreeRel (nextOf ws T L) S res top out) ∧ Hid (RowOf natR 3 wr 0 r (.slice va out.length vc) out) ∧
    Hid (CellsAt wr b g ws) ∧ Hid (∀ k, Value.ownBlock (.slice va out.length vc) = some k → w.heap.size < k) ∧ Blk wr w.heap.size [.int .i64 T, .int .i64 S, .int .i64 L, .int .u64 G] 24 ∧ Below w.heap.size w wr) (fun vv _ _ => match vv with | .slice _ n _ => S + 1 - n | _ => 0)
  case atStart => exact ⟨top, [], w.heap.size, none, 0, rfl, rfl, ht0, HF, hnil, D1, fun k hk => by simp [Value.ownBlock] at hk, P1, W1⟩
  case round =>
    obtain ⟨t, out, r, va, vc, rfl, rfl, ht, hF, hO, hD, hK, hP, hW⟩ := hrel
    clear HF hnil D1 P1 W1 HRes
    have CP := hP.cell
    have hfew := hF.out.few
    have eS : IntKind.u64.wrap (S : Int) = S := by rw [wrapu]; omega
    by_cases h1 : 1 ≤ t
    · by_cases h2 : t ≤ S
      · obtain ⟨i, rfl⟩ : ∃ i : Nat, t = i := ⟨t.toNat, by omega⟩
        have h1' : 1 ≤ i := by omega
        have h2' : i ≤ S := by omega
        have HO := Lib.hid hO.out.recB
        go_wp2_with fail
        refine (contains_calls _ _ _ _ _ HO.out (by omega) i).mono ?_
        rintro e w2 ⟨rfl, rfl⟩
        by_cases hm : i ∈ out
        · have e3 : out = res := hF.out.stop (fun h => h.2.2 (by simpa using hm))
          rw [decide_eq_true hm]
          subst e3
          have HR := hO
          have HWb := Lib.hid hW
          clear hm hO HO hF hfew
          go_wp2_with fail
          (try rw [Exit.noGoto_ret])
          go_ret
          exact ⟨va, vc, r, rfl, HR.out, HWb.out⟩
        · rw [decide_eq_false hm]
          have hF2 := hF.out.more i rfl h1' h2' hm
          have HF2 := Lib.hid hF2
          have q1 := Lib.hid (succ_calls T S L G (i : Int))
          rw [show slotP (T : Int) L i 5 = ((pWord T L i 5 : Nat) : Int) from HSl.out i 5 h2' h1' (by omega)] at q1
          have hwn := HW.out.get ((pWord T L i 5 : Nat) : Int)
          have R4 := Lib.hid (hO.out.below ((Below.refl _ _).alloc (Nat.le_refl _) (.cells #[.int .i64 i] 3)))
          clear hm hF2 hO HO hF
          go_wp2_with (at_builtin; refine wpList_append_rec (R := natR) rfl (.tmp 17) (.tmp 19) 49 3 (.int .i64 0) 8 rfl Try.underlying49 info3n rfl (by omega) 0 r _ out rfl R4.out i wr.heap.size rfl (Blk.new wr [.int .i64 i] 3) (by omega) (Nat.zero_le _) ?_)
          intro va2 vc2 w5 q' hR5 hg5 hq5 hz5
          have M5 : Mod (fun p => Value.ownBlock (.slice va out.length vc) = some p) wr w5 := ((Mod.refl _ _).alloc _).grown hg5 (fun p hp _ => hp)
          have hq5' : w.heap.size < q' := by
            rcases hq5 with e | e
            · exact hK.out q' e
            · have := hW.size
              (try simp at e)
              have := hP.lt
              omega
          have hK5 : Hid (∀ k, Value.ownBlock (.slice va2 (out ++ [i]).length vc2) = some k → w.heap.size < k) := fun k hk => by
            rw [List.length_append, List.length_singleton] at hk
            have := hR5.2 k hk
            omega
          have D5 := Lib.hid (hD.out.mod M5 (fun e => by have := hK.out _ e; omega) (fun e => by have := hK.out _ e; omega))
          have P5 := M5.blk hP (fun e => by have := hK.out _ e; omega)
          have C5 := P5.cell
          have W5 := below_mod hW M5 hW.size (fun p hp e => by have := hK.out p e; omega)
          have R5 : Hid (RowOf natR 3 w5 0 q' (.slice va2 (out ++ [i]).length vc2) (out ++ [i])) := by
            rw [List.length_append, List.length_singleton]; exact hR5
          have hl : out.length + 1 = (out ++ [i]).length := by simp
          clear hR5 hg5 hq5 M5 R4 hD hP hW hK CP
          go_wp2_with fail
          refine (q1.out _).mono ?_
          rintro e w6 ⟨rfl, hb6⟩
          have D6 := Lib.hid (D5.out.below hb6)
          have P6 := P5.below' hb6
          have R6 := Lib.hid (R5.out.below hb6)
          have W6 := W5.trans (hb6.mono W5.size)
          clear D5 P5 C5 R5 W5 hb6
          dsimp only
          go_wp2_with fail
          refine (cells_load _ _ _ _ D6.out _).mono ?_
          rintro e w7 ⟨rfl, rfl⟩
          dsimp only
          go_wp2_with fail
          go_roundw
          case rel => exact ⟨_, out ++ [i], q', va2, vc2, by rw [hl], rfl, hwn, HF2, R6, D6, hK5, P6, W6⟩
          case measure => simp; omega
      · have e3 : out = res := hF.out.stop (by omega)
        subst e3
        have HR := hO
        have HWb := Lib.hid hW
        have d1 : decide ((S : Int) < t) = true := by simp; omega
        clear hO hF
        go_wp2_with fail
        (try rw [Exit.noGoto_ret])
        go_ret
        exact ⟨va, vc, r, rfl, HR.out, HWb.out⟩
    · have e3 : out = res := hF.out.stop (by omega)
      subst e3
      have HR := hO
      have HWb := Lib.hid hW
      clear hO hF
      go_wp2_with fail
      (try rw [Exit.noGoto_ret])
      go_ret
      exact ⟨va, vc, r, rfl, HR.out, HWb.out⟩
end
end Go.Proofs.Ytgkobmmannkegaa
